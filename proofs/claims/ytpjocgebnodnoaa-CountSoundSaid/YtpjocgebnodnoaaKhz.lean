import Derived.Test.YtpjocgebnodnoaaKoz
import Derived.Test.YtpjocgebnodnoaaCyz
namespace Go.Proofs.Ytpjocgebnodnoaa
open Go.RowKit
set_option linter.unusedVariables false
set_option linter.unusedSimpArgs false
set_option maxRecDepth 100000
def reach (b : List Int) : List Int → List Int
  | [] => []
  | x :: l => x :: if nt b x.toNat 0 = 0 then reach b l else []
def onRay (b : List Int) (o : Int) (r : List Int) : Bool := (reach b r).contains o
def hitsZ (b : List Int) (s o : Int) : Bool := (raysR (nt b s.toNat 0) s).any (onRay b o)
theorem onRay_nil (b : List Int) (o : Int) : onRay b o [] = false := rfl
theorem onRay_cons (b : List Int) (o x : Int) (l : List Int) : onRay b o (x :: l) = (o == x || (decide (nt b x.toNat 0 = 0) && onRay b o l)) := by
  unfold onRay; rw [reach, List.contains_cons]
  split
  · rename_i h; rw [decide_eq_true h, Bool.true_and]
  · rename_i h; rw [decide_eq_false h, Bool.false_and]; rfl
structure Tame (T : List (List Int)) : Prop where
  len : T.length ≤ 8
  ray : ∀ r ∈ T, r.length ≤ 64
  on : ∀ r ∈ T, ∀ x ∈ r, 0 ≤ x ∧ x < 64
theorem cut_sub {sl : Bool} {l : List Int} : ∀ x ∈ cutL sl l, x ∈ l := by
  intro x hx; unfold cutL at hx; split at hx; exact hx; exact List.mem_of_mem_take hx
theorem raysR_tame (man s : Int) : Tame (raysR man s) := by
  refine ⟨?_, fun r hr => ?_, fun r hr x hx => ?_⟩
  · unfold raysR; exact Nat.le_trans (List.length_filter_le _ _) (by rw [List.length_map]; exact refP_len man)
  · obtain ⟨y, _, rfl⟩ := List.mem_map.1 (List.mem_filter.1 hr).1
    have := walkF_len y.1 y.2 64 s
    unfold cutL; split
    · exact this
    · rw [List.length_take]; omega
  · obtain ⟨y, _, rfl⟩ := List.mem_map.1 (List.mem_filter.1 hr).1
    exact walk_on 64 s x (cut_sub x hx)
theorem nt_mem {α : Type} {l : List α} {i : Nat} {d : α} (h : i < l.length) : nt l i d ∈ l := by
  have e : nt l i d = l[i] := by unfold nt; simp [List.getD, List.getElem?_eq_getElem h]
  rw [e]; exact List.getElem_mem h
theorem hits_l1 {b : List Int} {T : List (List Int)} (hT : Tame T) (o : Int) {i : Nat} (hi : i < T.length) {R : Bool} {M : Nat} (next : ∀ k, M < k → i_alfilref07_Hits.l0 k b o T ((i + 1 : Nat) : Int) = some R) :
    ∀ (d j k : Nat), j + d = (nt T i []).length → M + d + 1 < k → i_alfilref07_Hits.l1 k b o (i : Int) T (j : Int) = some (onRay b o ((nt T i []).drop j) || R) := by
  have hl := hT.ray _ (nt_mem (d := []) hi)
  have hon := hT.on _ (nt_mem (d := []) hi)
  have h8 := hT.len
  intro d
  induction d with
  | zero =>
    intro j k hj hk
    obtain ⟨k, rfl⟩ : ∃ q, k = q + 1 := ⟨k - 1, by omega⟩
    rw [i_alfilref07_Hits.l1, if_pos (by omega), if_pos (by omega), Int.toNat_natCast, if_neg (by omega), up1 (by omega), next k (by omega), List.drop_of_length_le (by omega)]; rfl
  | succ d ih =>
    intro j k hj hk
    obtain ⟨k, rfl⟩ : ∃ q, k = q + 1 := ⟨k - 1, by omega⟩
    have hj1 : j < (nt T i []).length := by omega
    have hx := hon _ (nt_mem (d := 0) hj1)
    rw [i_alfilref07_Hits.l1, if_pos (by omega), if_pos (by omega), Int.toNat_natCast, if_pos (by omega), if_pos (by omega), Int.toNat_natCast, drop_nt 0 hj1, onRay_cons]
    by_cases h1 : nt (nt T i []) j 0 = o
    · rw [if_pos h1, h1, beq_self_eq_true, Bool.true_or, Bool.true_or]
    · rw [if_neg h1, if_pos hx.1, if_pos hx.2, show (o == nt (nt T i []) j 0) = false from beq_eq_false_iff_ne.2 (fun e => h1 e.symm), Bool.false_or]
      by_cases h2 : nt b (nt (nt T i []) j 0).toNat 0 = 0
      · rw [if_pos h2, up1 (by omega), ih (j + 1) k (by omega) (by omega), decide_eq_true h2, Bool.true_and]
      · rw [if_neg h2, up1 (by omega), next k (by omega), decide_eq_false h2]; simp
theorem hits_l0 {b : List Int} {T : List (List Int)} (hT : Tame T) (o : Int) : ∀ (d i k : Nat), i + d = T.length → 70 * (d + 1) < k → i_alfilref07_Hits.l0 k b o T (i : Int) = some ((T.drop i).any (onRay b o)) := by
  have h8 := hT.len
  intro d
  induction d with
  | zero =>
    intro i k hi hk
    obtain ⟨k, rfl⟩ : ∃ q, k = q + 1 := ⟨k - 1, by omega⟩
    rw [i_alfilref07_Hits.l0, if_neg (by omega), List.drop_of_length_le (by omega)]; rfl
  | succ d ih =>
    intro i k hi hk
    obtain ⟨k, rfl⟩ : ∃ q, k = q + 1 := ⟨k - 1, by omega⟩
    have hi1 : i < T.length := by omega
    have hl := hT.ray _ (nt_mem (d := []) hi1)
    have := hits_l1 (b := b) hT o hi1 (M := 70 * (d + 1)) (fun k hk => ih (i + 1) k (by omega) hk) (nt T i []).length 0 k (by omega) (by omega)
    rw [List.drop_zero] at this; rw [i_alfilref07_Hits.l0, if_pos (by omega), drop_nt [] hi1, List.any_cons]; exact this
theorem cell_bd {b : List Int} (h : B8 b) (ho : okB b = true) {s : Int} (h0 : 0 ≤ s) (h1 : s < 64) : -6 ≤ nt b s.toNat 0 ∧ nt b s.toNat 0 ≤ 6 := by
  have := okB_at ho s.toNat (by omega)
  unfold nt
  rcases this with h2 | h2
  · exact (manB_bd h2).2
  · rw [h2]; omega
theorem rHits {b : List Int} (h : B8 b) (ho : okB b = true) {s : Int} (h0 : 0 ≤ s) (h1 : s < 64) (o : Int) {k : Nat} (hk : 700 < k) : i_alfilref07_Hits.f k b s o = some (hitsZ b s o) := by
  have hc := cell_bd h ho h0 h1
  rw [i_alfilref07_Hits.f, if_pos h0, if_pos h1, nt_w h, rOf hc.1 hc.2 s (by omega), Option.bind_some]
  have hT := raysR_tame (nt b s.toNat 0) s
  have := hits_l0 (b := b) hT o (raysR (nt b s.toNat 0) s).length 0 k (by omega) (by have := hT.len; omega)
  rw [List.drop_zero] at this; exact this
theorem ntA_eq {α : Type} {l : List α} {i : Nat} {v d : α} (h : i < l.length) : nt (l.set i v) i d = v := by unfold nt; simp [List.getD, h]
theorem ntA_ne {α : Type} {l : List α} {i j : Nat} {v d : α} (h : i ≠ j) : nt (l.set i v) j d = nt l j d := by unfold nt; simp [List.getD, List.getElem?_set_ne h]
theorem struck_l1 {b : List Int} {T : List (List Int)} (hT : Tame T) {i : Nat} (hi : i < T.length) {P : Nat → Bool} {M : Nat}
    (next : ∀ k arr, M < k → arr.length = 64 → ∃ arr', i_alfilref10_struck.l0 k b T ((i + 1 : Nat) : Int) arr = some arr' ∧ arr'.length = 64 ∧ ∀ o, o < 64 → nt arr' o false = (nt arr o false || P o)) :
    ∀ (d j k : Nat) (arr : List Bool), j + d = (nt T i []).length → M + d + 1 < k → arr.length = 64 → ∃ arr', i_alfilref10_struck.l1 k b (i : Int) T (j : Int) arr = some arr' ∧ arr'.length = 64 ∧ ∀ o, o < 64 → nt arr' o false = (nt arr o false || (onRay b (o : Int) ((nt T i []).drop j) || P o)) := by
  have hl := hT.ray _ (nt_mem (d := []) hi)
  have hon := hT.on _ (nt_mem (d := []) hi)
  have h8 := hT.len
  intro d
  induction d with
  | zero =>
    intro j k arr hj hk ha
    obtain ⟨k, rfl⟩ : ∃ q, k = q + 1 := ⟨k - 1, by omega⟩
    obtain ⟨arr', e1, e2, e3⟩ := next k arr (by omega) ha
    refine ⟨arr', ?_, e2, fun o ho => ?_⟩
    · rw [i_alfilref10_struck.l1, if_pos (by omega), if_pos (by omega), Int.toNat_natCast, if_neg (by omega), up1 (by omega), e1]
    · rw [e3 o ho, List.drop_of_length_le (by omega), onRay_nil, Bool.false_or]
  | succ d ih =>
    intro j k arr hj hk ha
    obtain ⟨k, rfl⟩ : ∃ q, k = q + 1 := ⟨k - 1, by omega⟩
    have hj1 : j < (nt T i []).length := by omega
    have hx := hon _ (nt_mem (d := 0) hj1)
    have set_at : ∀ o, o < 64 → nt (arr.set (nt (nt T i []) j 0).toNat true) o false = (nt arr o false || ((o : Int) == nt (nt T i []) j 0)) := by
      intro o ho
      by_cases e : (nt (nt T i []) j 0).toNat = o
      · subst e
        have e2 : (((nt (nt T i []) j 0).toNat : Nat) : Int) = nt (nt T i []) j 0 := by omega
        rw [e2, beq_self_eq_true, Bool.or_true]; exact ntA_eq (by omega)
      · have e2 : ((o : Int) == nt (nt T i []) j 0) = false := beq_eq_false_iff_ne.2 (by omega)
        rw [e2, Bool.or_false]; exact ntA_ne e
    by_cases h2 : nt b (nt (nt T i []) j 0).toNat 0 = 0
    · obtain ⟨arr', e1, e2, e3⟩ := ih (j + 1) k (arr.set (nt (nt T i []) j 0).toNat true) (by omega) (by omega) (by rw [List.length_set]; exact ha)
      refine ⟨arr', ?_, e2, fun o ho => ?_⟩
      · rw [i_alfilref10_struck.l1, if_pos (by omega), if_pos (by omega), Int.toNat_natCast, if_pos (by omega), if_pos (by omega), Int.toNat_natCast, if_pos hx.1, if_pos hx.2, if_pos h2, up1 (by omega), e1]
      · rw [e3 o ho, set_at o ho, drop_nt 0 hj1, onRay_cons, decide_eq_true h2, Bool.true_and, Bool.or_assoc, Bool.or_assoc]
    · obtain ⟨arr', e1, e2, e3⟩ := next k (arr.set (nt (nt T i []) j 0).toNat true) (by omega) (by rw [List.length_set]; exact ha)
      refine ⟨arr', ?_, e2, fun o ho => ?_⟩
      · rw [i_alfilref10_struck.l1, if_pos (by omega), if_pos (by omega), Int.toNat_natCast, if_pos (by omega), if_pos (by omega), Int.toNat_natCast, if_pos hx.1, if_pos hx.2, if_neg h2, up1 (by omega), e1]
      · rw [e3 o ho, set_at o ho, drop_nt 0 hj1, onRay_cons, decide_eq_false h2, Bool.false_and, Bool.or_false, Bool.or_assoc]
theorem struck_l0 {b : List Int} {T : List (List Int)} (hT : Tame T) : ∀ (d i k : Nat) (arr : List Bool), i + d = T.length → 70 * (d + 1) < k → arr.length = 64 →
    ∃ arr', i_alfilref10_struck.l0 k b T (i : Int) arr = some arr' ∧ arr'.length = 64 ∧ ∀ o, o < 64 → nt arr' o false = (nt arr o false || (T.drop i).any (onRay b (o : Int))) := by
  have h8 := hT.len
  intro d
  induction d with
  | zero =>
    intro i k arr hi hk ha
    obtain ⟨k, rfl⟩ : ∃ q, k = q + 1 := ⟨k - 1, by omega⟩
    refine ⟨arr, ?_, ha, fun o ho => ?_⟩
    · rw [i_alfilref10_struck.l0, if_neg (by omega)]
    · rw [List.drop_of_length_le (by omega)]; simp
  | succ d ih =>
    intro i k arr hi hk ha
    obtain ⟨k, rfl⟩ : ∃ q, k = q + 1 := ⟨k - 1, by omega⟩
    have hi1 : i < T.length := by omega
    have hl := hT.ray _ (nt_mem (d := []) hi1)
    obtain ⟨arr', e1, e2, e3⟩ := struck_l1 (b := b) hT hi1 (P := fun o => (T.drop (i + 1)).any (onRay b (o : Int))) (M := 70 * (d + 1)) (fun k arr hk ha => ih (i + 1) k arr (by omega) hk ha) (nt T i []).length 0 k arr (by omega) (by omega) ha
    refine ⟨arr', ?_, e2, fun o ho => ?_⟩
    · rw [i_alfilref10_struck.l0, if_pos (by omega)]; exact e1
    · rw [e3 o ho, List.drop_zero, drop_nt [] hi1, List.any_cons]
theorem rStruck {b : List Int} (h : B8 b) (ho : okB b = true) {s : Int} (h0 : 0 ≤ s) (h1 : s < 64) {k : Nat} (hk : 700 < k) : ∃ hh, i_alfilref10_struck.f k b s = some hh ∧ hh.length = 64 ∧ ∀ o, o < 64 → nt hh o false = hitsZ b s (o : Int) := by
  have hc := cell_bd h ho h0 h1
  have hT := raysR_tame (nt b s.toNat 0) s
  obtain ⟨arr', e1, e2, e3⟩ := struck_l0 (b := b) hT (raysR (nt b s.toNat 0) s).length 0 k (List.replicate 64 false) (by omega) (by have := hT.len; omega) (by simp)
  refine ⟨arr', ?_, e2, fun o ho => ?_⟩
  · rw [i_alfilref10_struck.f, if_pos h0, if_pos h1, nt_w h, rOf hc.1 hc.2 s (by omega), Option.bind_some]; exact e1
  · rw [e3 o ho, List.drop_zero]
    have : nt (List.replicate 64 false) o false = false := by unfold nt; rw [List.getD_eq_getElem?_getD, List.getElem?_replicate]; split <;> rfl
    rw [this, Bool.false_or]; rfl
def byF (b : List Int) (s side : Int) (i : Nat) : Bool := (sideZ (nt b i 0) == side) && hitsZ b (i : Int) s
def byZ (b : List Int) (s side : Int) : List Int := ((List.range' 0 64).filter (byF b s side)).map Int.ofNat
theorem rSide {x : Int} (h0 : -6 ≤ x) (h1 : x ≤ 6) {k : Nat} (hk : 6 < k) : i_alfilref02_Side.f k x = some (sideZ x) := by
  rw [i_alfilref02_Side.f, rKind (by omega) (by omega) hk, Option.bind_some]
  have : ∀ m : Fin 13, (if kindZ ((m.val : Int) - 6) = 0 then some (-1) else if ((m.val : Int) - 6) < 0 then some 1 else some 0) = some (sideZ ((m.val : Int) - 6)) := by decide +kernel
  have h := this ⟨(x + 6).toNat, by omega⟩
  rw [show (((⟨(x + 6).toNat, by omega⟩ : Fin 13).val : Nat) : Int) - 6 = x by show ((x + 6).toNat : Int) - 6 = x; omega] at h
  exact h
theorem rBy_l {b : List Int} (h : B8 b) (ho : okB b = true) (s side : Int) : ∀ (d i k : Nat) (acc : List Int), i + d = 64 → d + 800 < k → acc.length ≤ i →
    i_alfilref07_By.l0 k b s side acc (i : Int) = some (acc ++ ((List.range' i d).filter (byF b s side)).map Int.ofNat) := by
  intro d
  induction d with
  | zero =>
    intro i k acc hi hk ha
    obtain ⟨k, rfl⟩ : ∃ q, k = q + 1 := ⟨k - 1, by omega⟩
    rw [i_alfilref07_By.l0, if_neg (by omega)]; simp
  | succ d ih =>
    intro i k acc hi hk ha
    obtain ⟨k, rfl⟩ : ∃ q, k = q + 1 := ⟨k - 1, by omega⟩
    have hc := cell_bd h ho (s := (i : Int)) (by omega) (by omega)
    rw [Int.toNat_natCast] at hc
    rw [i_alfilref07_By.l0, if_pos (by omega), if_pos (by omega), Int.toNat_natCast, nt_w h, rSide hc.1 hc.2 (by omega), Option.bind_some, up1 (by omega), rHits h ho (by omega) (by omega) s (by omega), Option.bind_some, range_cons, List.filter_cons]
    unfold byF
    by_cases h1 : sideZ (nt b i 0) = side
    · rw [if_pos h1, h1, beq_self_eq_true, Bool.true_and]
      cases hitsZ b (i : Int) s with
      | true => rw [if_pos rfl, if_pos (by omega), ih (i + 1) k _ (by omega) (by omega) (by simp; omega)]; simp; rfl
      | false => rw [if_neg (by decide), ih (i + 1) k _ (by omega) (by omega) (by omega)]; rfl
    · rw [if_neg h1, beq_eq_false_iff_ne.2 h1, Bool.false_and, ih (i + 1) k _ (by omega) (by omega) (by omega)]; rfl
theorem rBy {b : List Int} (h : B8 b) (ho : okB b = true) {s : Int} (h0 : 0 ≤ s) (h1 : s < 64) (side : Int) {k : Nat} (hk : 1000 < k) : i_alfilref07_By.f k b s side = some (byZ b s side) := by
  rw [i_alfilref07_By.f, if_neg (by omega), if_neg (by omega), rRight h (by omega), Option.bind_some, ho, if_pos rfl]; have e := rBy_l h ho s side 64 0 k [] rfl (by omega) (by simp); rw [List.nil_append] at e; exact e
def kingS (b : List Int) (side : Int) : Int := if (whereZ b (sg side 6)).length = 0 then -1 else nt (whereZ b (sg side 6)) 0 0
theorem rKing {b : List Int} (h : B8 b) {side : Int} (hs : side = 0 ∨ side = 1) {k : Nat} (hk : 100 < k) : i_alfilref07_King.f k b side = some (kingS b side) := by
  unfold i_alfilref07_King.f kingS
  rcases hs with rfl | rfl
  · rw [if_neg (by decide), rWhere h _ (by omega), Option.bind_some, show sg 0 6 = 6 by decide]
    by_cases e : (whereZ b 6).length = 0
    · rw [if_pos (by omega), if_pos e]
    · rw [if_neg (by omega), if_neg (by decide), if_neg (by decide), if_pos (by omega), if_neg e]
  · rw [if_pos rfl, rWhere h _ (by omega), Option.bind_some, show sg 1 6 = -6 by decide]
    by_cases e : (whereZ b (-6)).length = 0
    · rw [if_pos (by omega), if_pos e]
    · rw [if_neg (by omega), if_neg (by decide), if_neg (by decide), if_pos (by omega), if_neg e]
def checkZ (b : List Int) (side : Int) : Bool := decide (0 ≤ kingS b side) && decide ((byZ b (kingS b side) (1 - side)).length > 0)
theorem kingS_bd (b : List Int) (side : Int) : kingS b side < 64 := by
  unfold kingS; split
  · omega
  · exact (mem_where (nt_mem (by omega))).2
theorem rCheck {b : List Int} (h : B8 b) (ho : okB b = true) {side : Int} (hs : side = 0 ∨ side = 1) {k : Nat} (hk : 1000 < k) : i_alfilref07_Check.f k b side = some (checkZ b side) := by
  rw [i_alfilref07_Check.f, rKing h hs (by omega), Option.bind_some]
  unfold checkZ
  by_cases hk0 : 0 ≤ kingS b side
  · rw [if_pos hk0, show wrap64 (1 - side) = 1 - side from q64 (by omega) (by omega), rBy h ho hk0 (kingS_bd b side) _ hk, Option.bind_some, decide_eq_true hk0, Bool.true_and]
    congr 1; rw [decide_eq_decide]; omega
  · rw [if_neg hk0, decide_eq_false hk0, Bool.false_and]
theorem check_of {b : List Int} {s o side : Int} (hs0 : 0 ≤ s) (hs1 : s < 64) (ho : o = kingS b side) (ho0 : 0 ≤ o) (hm : sideZ (nt b s.toNat 0) = 1 - side) (hh : hitsZ b s o = true) : checkZ b side = true := by
  unfold checkZ
  rw [← ho, decide_eq_true ho0, Bool.true_and, decide_eq_true_eq]
  have : Int.ofNat s.toNat ∈ byZ b o (1 - side) := by
    unfold byZ
    refine List.mem_map.2 ⟨s.toNat, List.mem_filter.2 ⟨?_, ?_⟩, rfl⟩
    · rw [range_zero]; exact List.mem_range.2 (by omega)
    · unfold byF; rw [hm, beq_self_eq_true, Bool.true_and, show ((s.toNat : Nat) : Int) = s by omega, hh]
  exact List.length_pos_iff.2 (List.ne_nil_of_mem this)
end Go.Proofs.Ytpjocgebnodnoaa
