import Derived.Test.YtpjocgebnodnoaaKbz
import Derived.Test.YtpjocgebnodnoaaK2wz
namespace Go.Proofs.Ytpjocgebnodnoaa
open Go.RowKit
set_option linter.unusedVariables false
set_option linter.unusedSimpArgs false
set_option maxRecDepth 100000
def i_alfilref09_Behind.f (k : Nat) (b : List Int) (t c e f o p : Int) : Option (List Int × Int × Int × Int) :=
  if 0 ≤ f ∧ f < 64 ∧ 0 ≤ o ∧ o < 64 ∧ 0 ≤ p ∧ p ≤ 5 ∧ (t = 0 ∨ t = 1) then
    match i_alfilref09_Takes.f 200 b t c e f o p, i_alfilref09_Right.f 200 b t c e f o p with
    | some tk, some R => if tk < 64 ∧ (R = 1 ∨ R = 4 → f + 3 < 64) ∧ (R = 2 ∨ R = 8 → 4 ≤ f) then some (behB b t f o p tk R, 1 - t, castJ c f o 4, epZ b f o) else none
    | _, _ => none
  else none
theorem b5Z_len {b : List Int} (h : b.length = 64) (t f o p tk R : Int) : (b5Z b t f o p tk R).length = 64 := by
  unfold b5Z b3Z b1Z; (repeat' split) <;> simp [h]
theorem behB_len {b : List Int} (h : b.length = 64) (t f o p tk R : Int) : (behB b t f o p tk R).length = 64 := by
  unfold behB; split <;> simp [b5Z_len h]
theorem i_alfilref09_Behind.calls (k : Nat) (a0_0 : List Int) (a0_1 : Int) (a0_2 : Int) (a0_3 : Int) (a1_0 : Int) (a1_1 : Int) (a1_2 : Int) (hla0_0 : a0_0.length = 64) (r1 : List Int) (r2 : Int) (r3 : Int) (r4 : Int) (w : World) (h : i_alfilref09_Behind.f k a0_0 a0_1 a0_2 a0_3 a1_0 a1_1 a1_2 = some (r1, r2, r3, r4)) :
    Calls Try.prog 48 #[.agg (pv a0_0 a0_1 a0_2 a0_3), .agg #[.int .i64 a1_0, .int .i64 a1_1, .int .i64 a1_2]] w fun e w' => e = .returned (.agg (pv r1 r2 r3 r4)) ∧ r1.length = 64 ∧ Below w.heap.size w w' := by
  unfold i_alfilref09_Behind.f at h
  split at h
  · rename_i h1
    obtain ⟨x1, x2, x3, x4, x5, x6, x7⟩ := h1
    split at h
    · rename_i tk R htk hR
      split at h
      · rename_i h2
        injection h with h; injection h with e1 h; injection h with e2 h; injection h with e3 e4
        subst e1; subst e2; subst e3; subst e4
        exact (beh_calls hla0_0 x1 x2 x3 x4 x5 x6 x7 htk h2.1 hR h2.2.1 h2.2.2 w).mono fun e w' hh => ⟨hh.1, behB_len hla0_0 _ _ _ _ _ _, hh.2⟩
      · cases h
    · cases h
  · cases h
def gZ (b : List Int) (t c e f o p : Int) : Option Bool :=
  (i_alfilref09_Formed.f 200 b t c e f o p).bind fun fm => if fm = false then some false else
  if pawnB b f = true then (i_alfilref09_Takes.f 200 b t c e f o p).bind fun tk => (i_alfilref06_Of.f 1000 (nt b f.toNat 0) f).bind fun L => if (L.all fun l => !l.isEmpty) = true ∧ L.length ≤ 100 then some (pawnR b t f o tk L) else none
  else (i_alfilref10_struck.f 1000 b f).bind fun h => if nt h o.toNat false = true then some true else (i_alfilref09_Right.f 200 b t c e f o p).map fun R => decide (R > 0)
def gB (b : List Int) (t c e f o p : Int) : Bool := (gZ b t c e f o p).getD false
def proms : List Int := [5, 4, 3, 2, 1, 0]
def cellF (b : List Int) (t c e : Int) (f o : Nat) : List (Int × Int × Int) := (proms.filter fun p => gB b t c e f o p).map fun p => ((f : Int), (o : Int), p)
def rowF (b : List Int) (t c e : Int) (f : Nat) : List (Int × Int × Int) := if nt b f 0 = 0 then [] else (List.range 64).flatMap fun o => cellF b t c e f o
def allZ (b : List Int) (t c e : Int) : List (Int × Int × Int) := (List.range 64).flatMap fun f => rowF b t c e f
def okAll (b : List Int) (t c e : Int) : Bool := decide (t = 0 ∨ t = 1) && ((List.range 64).all fun f => decide (-128 ≤ nt b f 0 ∧ nt b f 0 ≤ 127) && (nt b f 0 == 0 || ((i_alfilref10_struck.f 1000 b f).isSome && (List.range 64).all fun o => proms.all fun p => (gZ b t c e f o p).isSome)))
def enM (x : Int × Int × Int) : List Value := [.int .i64 x.1, .int .i64 x.2.1, .int .i64 x.2.2]
def i_alfilref10_All.f (k : Nat) (b : List Int) (t c e : Int) : Option (List (Int × Int × Int)) := if okAll b t c e = true then some (allZ b t c e) else none
def i_alfilref10_All.post (r1 : List (Int × Int × Int)) (w : World) (e : Ending) (w' : World) : Prop := ∃ (u_r1 : Value), e = .returned (u_r1) ∧ OwnN w' w.heap.size 75 3 (u_r1) r1.length (r1.flatMap enM) ∧ Below w.heap.size w w'
theorem cellF_len (b : List Int) (t c e : Int) (f o : Nat) : (cellF b t c e f o).length ≤ 6 := by unfold cellF; rw [List.length_map]; exact List.length_filter_le _ _
theorem flat_le {α β : Type} {g : α → List β} {m : Nat} (h : ∀ x, (g x).length ≤ m) : ∀ l : List α, (l.flatMap g).length ≤ m * l.length
  | [] => by simp
  | x :: l => by have := flat_le h l; have := h x; rw [List.flatMap_cons, List.length_append, List.length_cons, Nat.mul_succ]; omega
theorem rowF_len (b : List Int) (t c e : Int) (f : Nat) : (rowF b t c e f).length ≤ 384 := by
  unfold rowF; split
  · simp
  · have := flat_le (fun o => cellF_len b t c e f o) (List.range 64); simpa using this
def l1Z (b : List Int) (t c e : Int) (i : Nat) : List (Int × Int × Int) := (List.range i).flatMap fun f => rowF b t c e f
def l2Z (b : List Int) (t c e : Int) (i j : Nat) : List (Int × Int × Int) := l1Z b t c e i ++ (List.range j).flatMap fun o => cellF b t c e i o
def l3Z (b : List Int) (t c e : Int) (i j n : Nat) : List (Int × Int × Int) := l2Z b t c e i j ++ ((proms.take n).filter fun p => gB b t c e i j p).map fun p => ((i : Int), (j : Int), p)
theorem l1_len (b : List Int) (t c e : Int) (i : Nat) : (l1Z b t c e i).length ≤ 384 * i := by have := flat_le (fun f => rowF_len b t c e f) (List.range i); simpa [l1Z] using this
theorem l2_len (b : List Int) (t c e : Int) (i j : Nat) : (l2Z b t c e i j).length ≤ 384 * i + 6 * j := by
  have h1 := l1_len b t c e i
  have h2 : ((List.range j).flatMap fun o => cellF b t c e i o).length ≤ 6 * j := by have := flat_le (fun o => cellF_len b t c e i o) (List.range j); simpa using this
  unfold l2Z; rw [List.length_append]; omega
theorem l3_len (b : List Int) (t c e : Int) (i j n : Nat) : (l3Z b t c e i j n).length ≤ 384 * i + 6 * j + 6 := by
  have h1 := l2_len b t c e i j
  have h2 := List.length_filter_le (fun p => gB b t c e i j p) (proms.take n)
  have h3 : (proms.take n).length ≤ 6 := by rw [List.length_take]; exact Nat.min_le_right _ _
  unfold l3Z; rw [List.length_append, List.length_map]; omega
theorem l2_0 (b : List Int) (t c e : Int) (i : Nat) : l2Z b t c e i 0 = l1Z b t c e i := by simp [l2Z]
theorem l3_0 (b : List Int) (t c e : Int) (i j : Nat) : l3Z b t c e i j 0 = l2Z b t c e i j := by simp [l3Z]
theorem l1_suc {b : List Int} {t c e : Int} {i : Nat} (h : nt b i 0 ≠ 0) : l1Z b t c e (i + 1) = l2Z b t c e i 64 := by
  simp [l1Z, l2Z, List.range_succ, List.flatMap_append, rowF, h]
theorem l1_no {b : List Int} {t c e : Int} {i : Nat} (h : nt b i 0 = 0) : l1Z b t c e (i + 1) = l1Z b t c e i := by
  simp [l1Z, List.range_succ, List.flatMap_append, rowF, h]
theorem l2_suc (b : List Int) (t c e : Int) (i j : Nat) : l2Z b t c e i (j + 1) = l3Z b t c e i j 6 := by
  rw [l3Z, show proms.take 6 = proms from rfl]
  simp [l2Z, List.range_succ, List.flatMap_append, cellF]
theorem l3_yes {b : List Int} {t c e : Int} {i j n : Nat} {p : Int} (hn : proms[n]? = some p) (h : gB b t c e i j p = true) : l3Z b t c e i j (n + 1) = l3Z b t c e i j n ++ [((i : Int), (j : Int), p)] := by
  simp [l3Z, List.take_add_one, hn, List.filter_append, h]
theorem l3_no {b : List Int} {t c e : Int} {i j n : Nat} {p : Int} (hn : proms[n]? = some p) (h : gB b t c e i j p = false) : l3Z b t c e i j (n + 1) = l3Z b t c e i j n := by
  simp [l3Z, List.take_add_one, hn, List.filter_append, h]
theorem all_l1 (b : List Int) (t c e : Int) : allZ b t c e = l1Z b t c e 64 := rfl
theorem prom_at {n : Nat} (h : n < 6) : proms[n]? = some (5 - (n : Int)) := by
  match n, h with
  | 0, _ => rfl
  | 1, _ => rfl
  | 2, _ => rfl
  | 3, _ => rfl
  | 4, _ => rfl
  | 5, _ => rfl
theorem kN72_info : (Try.prog.info? 75).map (fun i => (i.zero, i.size, i.bytes)) = some (some (.agg #[.int .i64 0, .int .i64 0, .int .i64 0]), 3, 24) := by kernel_rfl
theorem ku72 : Try.prog.underlying 72 = some (.slice 75) := by kernel_rfl
theorem kN72 : ElemN Try.prog 72 75 3 24 := ⟨ku72, by
  obtain ⟨i, h1, h2, h3, h4⟩ := info_parts kN72_info
  exact ⟨i, _, h1, h2, h3, h4, rfl⟩, by decide⟩
structure AlM (w0 w : World) (b : List Int) (t c e : Int) (g1 : Nat) (u : Value) (l : List (Int × Int × Int)) : Prop where
  hl : Below w0.heap.size w0 w
  k1 : Blk w g1 46 (pv b t c e)
  ow : OwnN w w0.heap.size 75 3 u l.length (l.flatMap enM)
theorem AlM.go {w0 w w' : World} {b : List Int} {t c e : Int} {g1 : Nat} {u : Value} {l : List (Int × Int × Int)} (h : AlM w0 w b t c e g1 u l) (hb : Below w.heap.size w w') : AlM w0 w' b t c e g1 u l := ⟨h.hl.trans (hb.mono h.hl.size), h.k1.below hb h.k1.lt, h.ow.below hb⟩
theorem AlM.to_ {w0 w : World} {b : List Int} {t c e : Int} {g1 : Nat} {u : Value} {l l' : List (Int × Int × Int)} (h : AlM w0 w b t c e g1 u l) (e_ : l = l') : AlM w0 w b t c e g1 u l' := e_ ▸ h
set_option maxHeartbeats 40000000 in
theorem i_alfilref10_All.calls (k : Nat) (a0_0 : List Int) (a0_1 : Int) (a0_2 : Int) (a0_3 : Int) (hla0_0 : a0_0.length = 64) (r1 : List (Int × Int × Int)) (w : World) (h : i_alfilref10_All.f k a0_0 a0_1 a0_2 a0_3 = some r1) :
    Calls Try.prog 81 #[.agg (pv a0_0 a0_1 a0_2 a0_3)] w (i_alfilref10_All.post r1 w) := by
 obtain ⟨b, hb_⟩ : ∃ b, a0_0 = b := ⟨_, rfl⟩
 obtain ⟨t, ht_⟩ : ∃ t, a0_1 = t := ⟨_, rfl⟩
 obtain ⟨c, hc_⟩ : ∃ c, a0_2 = c := ⟨_, rfl⟩
 obtain ⟨e, he_⟩ : ∃ e, a0_3 = e := ⟨_, rfl⟩
 rw [hb_, ht_, hc_, he_] at h ⊢
 rw [hb_] at hla0_0
 clear hb_ ht_ hc_ he_
 unfold i_alfilref10_All.f at h
 by_cases hok : okAll b t c e = true
 case neg => rw [if_neg hok] at h; cases h
 rw [if_pos hok] at h
 obtain rfl := Option.some.inj h
 clear h
 have HB := hid hla0_0
 unfold okAll at hok
 rw [Bool.and_eq_true] at hok
 have HTT : Hid (t = 0 ∨ t = 1) := hid (of_decide_eq_true hok.1)
 have HALL := hid hok.2
 have H8 : Hid (∀ i, -128 ≤ nt b i 0 ∧ nt b i 0 ≤ 127) := hid (fun i => by
  by_cases hi : i < 64
  · have h1_ := List.all_eq_true.1 HALL.out i (List.mem_range.2 hi)
    rw [Bool.and_eq_true] at h1_
    exact of_decide_eq_true h1_.1
  · unfold nt; rw [List.getD_eq_getElem?_getD, List.getElem?_eq_none (by omega)]; decide)
 have HST : Hid (∀ i : Nat, i < 64 → nt b i 0 ≠ 0 → (∃ hh, i_alfilref10_struck.f 1000 b (i : Int) = some hh) ∧ ∀ j : Nat, j < 64 → ∀ p, p ∈ proms → ∃ g, gZ b t c e (i : Int) (j : Int) p = some g) := hid (fun i hi hn => by
  have h1_ := List.all_eq_true.1 HALL.out i (List.mem_range.2 hi)
  rw [Bool.and_eq_true, Bool.or_eq_true, Bool.and_eq_true] at h1_
  rcases h1_.2 with h2_ | h2_
  · exact absurd (beq_iff_eq.1 h2_) hn
  · refine ⟨Option.isSome_iff_exists.1 h2_.1, fun j hj p hp => ?_⟩
    have h3_ := List.all_eq_true.1 h2_.2 j (List.mem_range.2 hj)
    exact Option.isSome_iff_exists.1 (List.all_eq_true.1 h3_ p hp))
 clear hok hla0_0 HALL
 have HL := hid (Below.refl w.heap.size w)
 go_enter Try.func81, Try.ntmps81
 have k1 := True.intro
 go_wp2_with (first
   | ((with_reducible refine gate_d (N := 1) rfl ?_); clear k1; obtain ⟨g1, hg1⟩ : ∃ g_, w.heap.size = g_ := ⟨_, rfl⟩; refine ag_box (pv b t c e) g1 hg1 rfl _ rfl rfl ?_; intro w1 hb_ hB_ hs_; have M1 : Hid (AlM w w1 b t c e g1 (.slice none 0 0) (l1Z b t c e 0)) := hid ⟨HL.out.trans (hb_.mono (by rw [← hg1]; exact HL.out.size)), hB_, OwnN.nil _ _ _ _⟩; clear hb_ hB_ hs_ hg1 HL))
 (try simp only [Act.put, sI, sZ, sS])
 go_loopg [3, 4] 65 (fun kq v3 v4 w' => ∃ (x4 : Int) (i : Nat), v4 = .int .i64 x4 ∧ Hid (x4 = (i : Int)) ∧ Hid (kq + i = 65) ∧ Hid (i ≤ 64) ∧ Hid (AlM w w' b t c e g1 v3 (l1Z b t c e i)))
 case atStart => exact ⟨0, 0, (by first | rfl | (simp; done)), hid rfl, hid (by omega), hid (by omega), M1⟩
 case round =>
  clear M1
  obtain ⟨x4, i, rfl, HI, HK1, HIM, M⟩ := hrel
  obtain ⟨K1, rfl⟩ : ∃ K_, gk = K_ + 1 := ⟨gk - 1, by have := HK1.out; have := HIM.out; omega⟩
  by_cases q : x4 < 64
  case neg =>
   have qb : decide (x4 < 64) = false := decide_eq_false q
   have HE : Hid (l1Z b t c e i = allZ b t c e) := hid (by rw [all_l1, show i = 64 by have := HI.out; have := HIM.out; omega])
   clear q
   go_wp2_with fail
   go_ret
   exact ⟨_, rfl, by rw [← HE.out]; exact M.out.ow, M.out.hl⟩
  have qb : decide (x4 < 64) = true := decide_eq_true q
  have HQ := hid q
  clear q
  have HI6 : Hid (i < 64) := hid (by have := HI.out; have := HQ.out; omega)
  have HX0 : Hid (0 ≤ x4) := hid (by have := HI.out; omega)
  have HXN : Hid (x4.toNat = i) := hid (by have := HI.out; omega)
  obtain ⟨m, hm_⟩ : ∃ m, nt b i 0 = m := ⟨_, rfl⟩
  have HM := hid hm_
  clear hm_
  by_cases z : m = 0
  ·
   have zb : (m == 0) = true := beq_iff_eq.mpr z
   have HZ := hid z
   clear z
   go_wp2_with (first
     | ((with_reducible refine gate_d (N := 14) rfl ?_); refine ag_fix (.pointer (some ⟨g1, 0, none⟩)) (ex_field 46 0 (.pointer (some ⟨g1, 0, none⟩)) (.pointer (some ⟨g1, 0, none⟩)) (fa46_0_0 g1) _ rfl rfl) rfl ?_)
     | ((with_reducible refine gate_d (N := 15) rfl ?_); refine ag_fix (.pointer (some ⟨g1, x4.toNat, none⟩)) (ex_at 44 (.pointer (some ⟨g1, 0, none⟩)) (.int .i64 x4) (.pointer (some ⟨g1, x4.toNat, none⟩)) (fun w_ => (run_atv 42 uT44 sT42.size g1 0 x4 HX0.out HQ.out w_).trans (by simp)) _ _ rfl rfl rfl) rfl ?_)
     | ((with_reducible refine gate_d (N := 16) rfl ?_); refine ag_fix (.int .i8 m) (ex_get sT42 g1 x4.toNat (.int .i8 m) (pv b t c e) M.out.k1 ((xv_elem 0 (by have := HB.out; have := HX0.out; have := HQ.out; omega)).trans (by rw [HXN.out, HM.out])) _ rfl rfl) rfl ?_))
   (try simp only [Act.put, sI, sZ, sS])
   go_roundg K1
   case measure => omega
   case rel => exact ⟨_, i + 1, (by first | rfl | (simp; done)), hid (by have := HI.out; have := HQ.out; rw [m64 (by omega) (by omega)]; omega), hid (by have := HK1.out; omega), hid (by have := HI6.out; omega), hid (M.out.to_ (l1_no (by rw [HM.out, HZ.out])).symm)⟩
  have zb : (m == 0) = false := beq_eq_false_iff_ne.mpr z
  have HZ := hid z
  clear z
  have HNZ : Hid (nt b i 0 ≠ 0) := hid (by rw [HM.out]; exact HZ.out)
  obtain ⟨hh, hst_⟩ := (HST.out i HI6.out HNZ.out).1
  have HSK : Hid (i_alfilref10_struck.f 1000 b x4 = some hh) := hid (by rw [HI.out]; exact hst_)
  clear hst_
  have k2 := True.intro
  have k3 := True.intro
  go_wp2_with (first
    | ((with_reducible refine gate_d (N := 14) rfl ?_); refine ag_fix (.pointer (some ⟨g1, 0, none⟩)) (ex_field 46 0 (.pointer (some ⟨g1, 0, none⟩)) (.pointer (some ⟨g1, 0, none⟩)) (fa46_0_0 g1) _ rfl rfl) rfl ?_)
    | ((with_reducible refine gate_d (N := 15) rfl ?_); refine ag_fix (.pointer (some ⟨g1, x4.toNat, none⟩)) (ex_at 44 (.pointer (some ⟨g1, 0, none⟩)) (.int .i64 x4) (.pointer (some ⟨g1, x4.toNat, none⟩)) (fun w_ => (run_atv 42 uT44 sT42.size g1 0 x4 HX0.out HQ.out w_).trans (by simp)) _ _ rfl rfl rfl) rfl ?_)
    | ((with_reducible refine gate_d (N := 16) rfl ?_); refine ag_fix (.int .i8 m) (ex_get sT42 g1 x4.toNat (.int .i8 m) (pv b t c e) M.out.k1 ((xv_elem 0 (by have := HB.out; have := HX0.out; have := HQ.out; omega)).trans (by rw [HXN.out, HM.out])) _ rfl rfl) rfl ?_)
    | ((with_reducible refine gate_d (N := 18) rfl ?_); refine ag_fix (.pointer (some ⟨g1, 0, none⟩)) (ex_field 46 0 (.pointer (some ⟨g1, 0, none⟩)) (.pointer (some ⟨g1, 0, none⟩)) (fa46_0_0 g1) _ rfl rfl) rfl ?_)
    | ((with_reducible refine gate_d (N := 19) rfl ?_); refine ag_fix (.agg (bv b)) (ex_load boardT g1 0 (pv b t c e) (bv b) M.out.k1 (xv_lea HB.out) (xv_exa HB.out) _ rfl rfl) rfl ?_)
    | (go_at_call 106; clear k2; refine (i_alfilref10_struck.calls 1000 b x4 HB.out hh _ HSK.out).mono ?_; rintro e_ w2 ⟨rfl, hl_, hb_⟩; have M2 := hid (M.out.go hb_); have HHL := hid hl_; clear hl_ hb_ M)
    | ((with_reducible refine gate_d (N := 5) rfl ?_); clear k3; obtain ⟨g5, hg5⟩ : ∃ g_, w2.heap.size = g_ := ⟨_, rfl⟩; refine ag_alst aT133 (av Value.bool hh) g5 hg5 (by rw [av_size, HHL.out]) (av_one (fun _ => rfl)) rfl rfl 5 rfl _ _ rfl (fun _ => rfl) (fun _ => rfl) rfl ?_; intro w3 hb_ hB_ hs_; have M3 : Hid (AlM w w3 b t c e g1 _ (l2Z b t c e i 0)) := hid ((M2.out.go (by rw [hg5]; exact hb_)).to_ (l2_0 b t c e i).symm); have BK5 := hid hB_; clear hb_ hB_ hs_ hg5 M2))
  (try simp only [Act.put, sI, sZ, sS])
  go_loopg [3, 6] 65 (fun kq v3 v6 w' => ∃ (x6 : Int) (j : Nat), v6 = .int .i64 x6 ∧ Hid (x6 = (j : Int)) ∧ Hid (kq + j = 65) ∧ Hid (j ≤ 64) ∧ Hid (Blk w' g5 133 (av Value.bool hh)) ∧ Hid (AlM w w' b t c e g1 v3 (l2Z b t c e i j)))
  case atStart => exact ⟨0, 0, (by first | rfl | (simp; done)), hid rfl, hid (by omega), hid (by omega), BK5, M3⟩
  case round =>
   clear M3 BK5
   obtain ⟨x6, j, rfl, HJ, HK3, HJM, BK5, M⟩ := hrel
   obtain ⟨K2, rfl⟩ : ∃ K_, gk = K_ + 1 := ⟨gk - 1, by have := HK3.out; have := HJM.out; omega⟩
   by_cases q : x6 < 64
   case neg =>
    have qb6 : decide (x6 < 64) = false := decide_eq_false q
    have HE : Hid (l2Z b t c e i j = l1Z b t c e (i + 1)) := hid (by rw [l1_suc HNZ.out, show j = 64 by have := HJ.out; have := HJM.out; omega])
    clear q
    go_wp2_with fail
    (try simp only [Act.put, sI, sZ, sS])
    go_roundg K1
    case measure => omega
    case rel => exact ⟨_, i + 1, (by first | rfl | (simp; done)), hid (by have := HI.out; have := HQ.out; rw [m64 (by omega) (by omega)]; omega), hid (by have := HK1.out; omega), hid (by have := HI6.out; omega), hid (M.out.to_ HE.out)⟩
   have qb6 : decide (x6 < 64) = true := decide_eq_true q
   have HQ6 := hid q
   clear q
   have HJ6 : Hid (j < 64) := hid (by have := HJ.out; have := HQ6.out; omega)
   have HY0 : Hid (0 ≤ x6) := hid (by have := HJ.out; omega)
   have HYN : Hid (x6.toNat = j) := hid (by have := HJ.out; omega)
   have M4 : Hid (AlM w wr b t c e g1 _ (l3Z b t c e i j 0)) := hid (M.out.to_ (l3_0 b t c e i j).symm)
   clear M
   go_wp2_with fail
   (try simp only [Act.put, sI, sZ, sS])
   go_loopg [3, 7] 7 (fun kq v3 v7 w' => ∃ (x7 : Int) (n : Nat), v7 = .int .i64 x7 ∧ Hid (x7 = 5 - (n : Int)) ∧ Hid (kq + n = 7) ∧ Hid (n ≤ 6) ∧ Hid (Blk w' g5 133 (av Value.bool hh)) ∧ Hid (AlM w w' b t c e g1 v3 (l3Z b t c e i j n)))
   case atStart => exact ⟨5, 0, (by first | rfl | (simp; done)), hid rfl, hid (by omega), hid (by omega), BK5, M4⟩
   case round =>
    clear M4 BK5
    obtain ⟨x7, n, rfl, HN, HK4, HNM, BK5, M⟩ := hrel
    obtain ⟨K3, rfl⟩ : ∃ K_, gk = K_ + 1 := ⟨gk - 1, by have := HK4.out; have := HNM.out; omega⟩
    by_cases q : x7 ≥ 0
    case neg =>
     have qb7 : decide (x7 ≥ 0) = false := decide_eq_false q
     have qb7' : decide (0 ≤ x7) = false := decide_eq_false q
     have HE : Hid (l3Z b t c e i j n = l2Z b t c e i (j + 1)) := hid (by rw [l2_suc, show n = 6 by have := HN.out; have := HNM.out; omega])
     clear q
     go_wp2_with fail
     (try simp only [Act.put, sI, sZ, sS])
     go_roundg K2
     case measure => omega
     case rel => exact ⟨_, j + 1, (by first | rfl | (simp; done)), hid (by have := HJ.out; have := HQ6.out; rw [m64 (by omega) (by omega)]; omega), hid (by have := HK3.out; omega), hid (by have := HJ6.out; omega), BK5, hid (M.out.to_ HE.out)⟩
    have qb7 : decide (x7 ≥ 0) = true := decide_eq_true q
    have qb7' : decide (0 ≤ x7) = true := decide_eq_true q
    have HN6 : Hid (n < 6) := hid (by have := HN.out; omega)
    have HP0 : Hid (0 ≤ x7 ∧ x7 ≤ 5) := hid (by have := HN.out; omega)
    clear q
    have HPN : Hid (proms[n]? = some x7) := hid (by rw [HN.out]; exact prom_at HN6.out)
    obtain ⟨gr, hgr_⟩ := (HST.out i HI6.out HNZ.out).2 j HJ6.out x7 (List.mem_of_getElem? HPN.out)
    rw [← HI.out, ← HJ.out] at hgr_
    have HGB : Hid (gB b t c e (i : Int) (j : Int) x7 = gr) := hid (by unfold gB; rw [← HI.out, ← HJ.out, hgr_]; rfl)
    unfold gZ at hgr_
    obtain ⟨fm, hfm_, hgr_⟩ := Option.bind_eq_some_iff.1 hgr_
    have HFM := hid hfm_
    clear hfm_
    have DEC : Hid (wrap64 (x7 - 1) = 5 - ((n + 1 : Nat) : Int)) := hid (by rw [m64 (by have := HP0.out; omega) (by have := HP0.out; omega)]; have := HN.out; omega)
    have t1 := True.intro
    have t2 := True.intro
    have t3 := True.intro
    have t4 := True.intro
    have t5 := True.intro
    cases fm with
    | false =>
     have HGR : Hid (gB b t c e (i : Int) (j : Int) x7 = false) := hid (by rw [HGB.out]; rw [if_pos rfl] at hgr_; exact (Option.some.inj hgr_).symm)
     clear hgr_
     go_wp2_with (first
       | ((with_reducible refine gate_d (N := 33) rfl ?_); refine ag_build (.agg #[.int .i64 x4, .int .i64 x6, .int .i64 x7]) _ rfl rfl ?_ ?_; (intro ww_; simp only [List.map_toArray, List.map_cons, List.map_nil]; kernel_rfl))
       | ((with_reducible refine gate_d (N := 8) rfl ?_); clear t1; obtain ⟨g8, hg8⟩ : ∃ g_, wr.heap.size = g_ := ⟨_, rfl⟩; refine ag_alst aT75 #[.int .i64 x4, .int .i64 x6, .int .i64 x7] g8 hg8 rfl (by intro u_ hu_; simp at hu_; rcases hu_ with rfl | rfl | rfl <;> rfl) rfl rfl 8 rfl _ _ rfl (fun _ => rfl) (fun _ => rfl) rfl ?_; intro w8 hb_ hB_ hs_; have M8 := hid (M.out.go (by rw [hg8]; exact hb_)); have BK58 := hid (BK5.out.below hb_ (by rw [← hg8]; exact BK5.out.lt)); have BK8 := hid hB_; clear hb_ hB_ hs_ hg8 M BK5)
       | ((with_reducible refine gate_d (N := 34) rfl ?_); refine ag_fix (.agg (pv b t c e)) (ex_load posT g1 0 (pv b t c e) (pv b t c e) M8.out.k1 (xv_le HB.out 67 rfl) (xv_ex HB.out 67 rfl) _ rfl rfl) rfl ?_)
       | ((with_reducible refine gate_d (N := 35) rfl ?_); refine ag_fix (.agg #[.int .i64 x4, .int .i64 x6, .int .i64 x7]) (ex_load aT75 g8 0 #[.int .i64 x4, .int .i64 x6, .int .i64 x7] #[.int .i64 x4, .int .i64 x6, .int .i64 x7] BK8.out (by simp) rfl _ rfl rfl) rfl ?_)
       | (go_at_call 107; clear t2; refine (i_alfilref09_Formed.calls 200 b t c e x4 x6 x7 HB.out _ _ HFM.out).mono ?_; rintro e_ w9 ⟨rfl, hb_⟩; have M9 := hid (M8.out.go hb_); have BK59 := hid (BK58.out.below hb_ BK58.out.lt); have BK89 := hid (BK8.out.below hb_ BK8.out.lt); clear hb_ M8 BK58 BK8))
     (try simp only [Act.put, sI, sZ, sS])
     go_roundg K3
     case measure => omega
     case rel => exact ⟨_, n + 1, (by first | rfl | (simp; done)), DEC, hid (by have := HK4.out; omega), hid (by have := HN6.out; omega), BK59, hid (M9.out.to_ (l3_no HPN.out HGR.out).symm)⟩
    | true =>
     rw [if_neg (by decide)] at hgr_
     have HPW : Hid (i_alfilref09_Pawn.f b x4 = some (pawnB b x4)) := hid (pawn_is HX0.out HQ.out)
     go_upto_region 15 with (first
      | ((with_reducible refine gate_d (N := 33) rfl ?_); refine ag_build (.agg #[.int .i64 x4, .int .i64 x6, .int .i64 x7]) _ rfl rfl ?_ ?_; (intro ww_; simp only [List.map_toArray, List.map_cons, List.map_nil]; kernel_rfl))
      | ((with_reducible refine gate_d (N := 8) rfl ?_); clear t1; obtain ⟨g8, hg8⟩ : ∃ g_, wr.heap.size = g_ := ⟨_, rfl⟩; refine ag_alst aT75 #[.int .i64 x4, .int .i64 x6, .int .i64 x7] g8 hg8 rfl (by intro u_ hu_; simp at hu_; rcases hu_ with rfl | rfl | rfl <;> rfl) rfl rfl 8 rfl _ _ rfl (fun _ => rfl) (fun _ => rfl) rfl ?_; intro w8 hb_ hB_ hs_; have M8 := hid (M.out.go (by rw [hg8]; exact hb_)); have BK58 := hid (BK5.out.below hb_ (by rw [← hg8]; exact BK5.out.lt)); have BK8 := hid hB_; clear hb_ hB_ hs_ hg8 M BK5)
      | ((with_reducible refine gate_d (N := 34) rfl ?_); refine ag_fix (.agg (pv b t c e)) (ex_load posT g1 0 (pv b t c e) (pv b t c e) M8.out.k1 (xv_le HB.out 67 rfl) (xv_ex HB.out 67 rfl) _ rfl rfl) rfl ?_)
      | ((with_reducible refine gate_d (N := 35) rfl ?_); refine ag_fix (.agg #[.int .i64 x4, .int .i64 x6, .int .i64 x7]) (ex_load aT75 g8 0 #[.int .i64 x4, .int .i64 x6, .int .i64 x7] #[.int .i64 x4, .int .i64 x6, .int .i64 x7] BK8.out (by simp) rfl _ rfl rfl) rfl ?_)
      | (go_at_call 107; clear t2; refine (i_alfilref09_Formed.calls 200 b t c e x4 x6 x7 HB.out _ _ HFM.out).mono ?_; rintro e_ w9 ⟨rfl, hb_⟩; have M9 := hid (M8.out.go hb_); have BK59 := hid (BK58.out.below hb_ BK58.out.lt); have BK89 := hid (BK8.out.below hb_ BK8.out.lt); clear hb_ M8 BK58 BK8))
     (try simp only [Act.put, sI, sZ, sS])
     go_cut [64] from 26 to 68 (fun s_ w' => s_ = .bool gr ∧ Hid (Blk w' g5 133 (av Value.bool hh)) ∧ Hid (Blk w' g8 75 #[.int .i64 x4, .int .i64 x6, .int .i64 x7]) ∧ Hid (AlM w w' b t c e g1 u3 (l3Z b t c e i j n)))
     case first =>
      have t6 := True.intro
      have t7 := True.intro
      cases hpw_ : pawnB b x4 with
      | true =>
       rw [hpw_] at HPW
       rw [if_pos hpw_] at hgr_
       obtain ⟨tk, htk_, hgr_⟩ := Option.bind_eq_some_iff.1 hgr_
       obtain ⟨L, hL_, hgr_⟩ := Option.bind_eq_some_iff.1 hgr_
       by_cases hn_ : (L.all fun l => !l.isEmpty) = true ∧ L.length ≤ 100
       case neg => rw [if_neg hn_] at hgr_; cases hgr_
       rw [if_pos hn_] at hgr_
       have HPR : Hid (pawnR b t x4 x6 tk L = gr) := hid (Option.some.inj hgr_)
       have HTK := hid htk_
       have HOL := hid hL_
       have HLN : Hid (∀ l ∈ L, l ≠ []) := hid (fun l hl e_ => by have h_ := List.all_eq_true.1 hn_.1 l hl; rw [e_] at h_; cases h_)
       have HLL := hid hn_.2
       clear hgr_ htk_ hL_ hn_ hpw_
       cases gr with
       | true =>
        go_wp2_with (first
          | ((with_reducible refine gate_d (N := 38) rfl ?_); refine ag_fix (.pointer (some ⟨g1, 0, none⟩)) (ex_field 46 0 (.pointer (some ⟨g1, 0, none⟩)) (.pointer (some ⟨g1, 0, none⟩)) (fa46_0_0 g1) _ rfl rfl) rfl ?_)
          | ((with_reducible refine gate_d (N := 39) rfl ?_); refine ag_fix (.agg (bv b)) (ex_load boardT g1 0 (pv b t c e) (bv b) M9.out.k1 (xv_lea HB.out) (xv_exa HB.out) _ rfl rfl) rfl ?_)
          | (go_at_call 83; clear t3; refine (i_alfilref09_Pawn.calls b x4 HB.out _ _ HPW.out).mono ?_; rintro e_ wa ⟨rfl, hb_⟩; have Ma := hid (M9.out.go hb_); have BK5a := hid (BK59.out.below hb_ BK59.out.lt); have BK8a := hid (BK89.out.below hb_ BK89.out.lt); clear hb_ M9 BK59 BK89)
          | ((with_reducible refine gate_d (N := 43) rfl ?_); refine ag_fix (.agg (pv b t c e)) (ex_load posT g1 0 (pv b t c e) (pv b t c e) Ma.out.k1 (xv_le HB.out 67 rfl) (xv_ex HB.out 67 rfl) _ rfl rfl) rfl ?_)
          | ((with_reducible refine gate_d (N := 44) rfl ?_); refine ag_fix (.agg #[.int .i64 x4, .int .i64 x6, .int .i64 x7]) (ex_load aT75 g8 0 #[.int .i64 x4, .int .i64 x6, .int .i64 x7] #[.int .i64 x4, .int .i64 x6, .int .i64 x7] BK8a.out (by simp) rfl _ rfl rfl) rfl ?_)
          | (go_at_call 108; clear t4; refine (pawn_calls HB.out H8.out HX0.out HQ.out HY0.out HQ6.out HTT.out HTK.out (by rw [HXN.out] at *; exact HOL.out) HLN.out HLL.out _).mono ?_; rintro e_ wb ⟨rfl, hb_⟩; rw [HPR.out]; have Mb := hid (Ma.out.go hb_); have BK5b := hid (BK5a.out.below hb_ BK5a.out.lt); have BK8b := hid (BK8a.out.below hb_ BK8a.out.lt); clear hb_ Ma BK5a BK8a))
        (try simp only [Act.put, sI, sZ, sS])
        go_meet
        case rel => exact ⟨rfl, BK5b, BK8b, Mb⟩
       | false =>
        go_wp2_with (first
          | ((with_reducible refine gate_d (N := 38) rfl ?_); refine ag_fix (.pointer (some ⟨g1, 0, none⟩)) (ex_field 46 0 (.pointer (some ⟨g1, 0, none⟩)) (.pointer (some ⟨g1, 0, none⟩)) (fa46_0_0 g1) _ rfl rfl) rfl ?_)
          | ((with_reducible refine gate_d (N := 39) rfl ?_); refine ag_fix (.agg (bv b)) (ex_load boardT g1 0 (pv b t c e) (bv b) M9.out.k1 (xv_lea HB.out) (xv_exa HB.out) _ rfl rfl) rfl ?_)
          | (go_at_call 83; clear t3; refine (i_alfilref09_Pawn.calls b x4 HB.out _ _ HPW.out).mono ?_; rintro e_ wa ⟨rfl, hb_⟩; have Ma := hid (M9.out.go hb_); have BK5a := hid (BK59.out.below hb_ BK59.out.lt); have BK8a := hid (BK89.out.below hb_ BK89.out.lt); clear hb_ M9 BK59 BK89)
          | ((with_reducible refine gate_d (N := 43) rfl ?_); refine ag_fix (.agg (pv b t c e)) (ex_load posT g1 0 (pv b t c e) (pv b t c e) Ma.out.k1 (xv_le HB.out 67 rfl) (xv_ex HB.out 67 rfl) _ rfl rfl) rfl ?_)
          | ((with_reducible refine gate_d (N := 44) rfl ?_); refine ag_fix (.agg #[.int .i64 x4, .int .i64 x6, .int .i64 x7]) (ex_load aT75 g8 0 #[.int .i64 x4, .int .i64 x6, .int .i64 x7] #[.int .i64 x4, .int .i64 x6, .int .i64 x7] BK8a.out (by simp) rfl _ rfl rfl) rfl ?_)
          | (go_at_call 108; clear t4; refine (pawn_calls HB.out H8.out HX0.out HQ.out HY0.out HQ6.out HTT.out HTK.out (by rw [HXN.out] at *; exact HOL.out) HLN.out HLL.out _).mono ?_; rintro e_ wb ⟨rfl, hb_⟩; rw [HPR.out]; have Mb := hid (Ma.out.go hb_); have BK5b := hid (BK5a.out.below hb_ BK5a.out.lt); have BK8b := hid (BK8a.out.below hb_ BK8a.out.lt); clear hb_ Ma BK5a BK8a)
          | ((with_reducible refine gate_d (N := 48) rfl ?_); refine ag_fix (.pointer (some ⟨g1, 0, none⟩)) (ex_field 46 0 (.pointer (some ⟨g1, 0, none⟩)) (.pointer (some ⟨g1, 0, none⟩)) (fa46_0_0 g1) _ rfl rfl) rfl ?_)
          | ((with_reducible refine gate_d (N := 49) rfl ?_); refine ag_fix (.agg (bv b)) (ex_load boardT g1 0 (pv b t c e) (bv b) Mb.out.k1 (xv_lea HB.out) (xv_exa HB.out) _ rfl rfl) rfl ?_)
          | (go_at_call 83; clear t6; refine (i_alfilref09_Pawn.calls b x4 HB.out _ _ HPW.out).mono ?_; rintro e_ wc_ ⟨rfl, hb_⟩; have Mc := hid (Mb.out.go hb_); have BK5c := hid (BK5b.out.below hb_ BK5b.out.lt); have BK8c := hid (BK8b.out.below hb_ BK8b.out.lt); clear hb_ Mb BK5b BK8b))
        (try simp only [Act.put, sI, sZ, sS])
        go_meet
        case rel => exact ⟨rfl, BK5c, BK8c, Mc⟩
      | false =>
       rw [hpw_] at HPW
       rw [if_neg (by rw [hpw_]; decide)] at hgr_
       rw [HSK.out, Option.bind_some] at hgr_
       obtain ⟨hv, hhv_⟩ : ∃ v, nt hh x6.toNat false = v := ⟨_, rfl⟩
       have HHV := hid hhv_
       rw [hhv_] at hgr_
       clear hhv_ hpw_
       cases hv with
       | true =>
        have HGT : Hid (gr = true) := hid (by rw [if_pos rfl] at hgr_; exact (Option.some.inj hgr_).symm)
        clear hgr_
        go_wp2_with (first
          | ((with_reducible refine gate_d (N := 38) rfl ?_); refine ag_fix (.pointer (some ⟨g1, 0, none⟩)) (ex_field 46 0 (.pointer (some ⟨g1, 0, none⟩)) (.pointer (some ⟨g1, 0, none⟩)) (fa46_0_0 g1) _ rfl rfl) rfl ?_)
          | ((with_reducible refine gate_d (N := 39) rfl ?_); refine ag_fix (.agg (bv b)) (ex_load boardT g1 0 (pv b t c e) (bv b) M9.out.k1 (xv_lea HB.out) (xv_exa HB.out) _ rfl rfl) rfl ?_)
          | (go_at_call 83; clear t3; refine (i_alfilref09_Pawn.calls b x4 HB.out _ _ HPW.out).mono ?_; rintro e_ wa ⟨rfl, hb_⟩; have Ma := hid (M9.out.go hb_); have BK5a := hid (BK59.out.below hb_ BK59.out.lt); have BK8a := hid (BK89.out.below hb_ BK89.out.lt); clear hb_ M9 BK59 BK89)
          | ((with_reducible refine gate_d (N := 48) rfl ?_); refine ag_fix (.pointer (some ⟨g1, 0, none⟩)) (ex_field 46 0 (.pointer (some ⟨g1, 0, none⟩)) (.pointer (some ⟨g1, 0, none⟩)) (fa46_0_0 g1) _ rfl rfl) rfl ?_)
          | ((with_reducible refine gate_d (N := 49) rfl ?_); refine ag_fix (.agg (bv b)) (ex_load boardT g1 0 (pv b t c e) (bv b) Ma.out.k1 (xv_lea HB.out) (xv_exa HB.out) _ rfl rfl) rfl ?_)
          | (go_at_call 83; clear t6; refine (i_alfilref09_Pawn.calls b x4 HB.out _ _ HPW.out).mono ?_; rintro e_ wb ⟨rfl, hb_⟩; have Mb := hid (Ma.out.go hb_); have BK5b := hid (BK5a.out.below hb_ BK5a.out.lt); have BK8b := hid (BK8a.out.below hb_ BK8a.out.lt); clear hb_ Ma BK5a BK8a)
          | ((with_reducible refine gate_d (N := 55) rfl ?_); refine ag_fix (.pointer (some ⟨g5, x6.toNat, none⟩)) (ex_at 133 (.pointer (some ⟨g5, 0, none⟩)) (.int .i64 x6) (.pointer (some ⟨g5, x6.toNat, none⟩)) (fun w_ => (run_atv 4 uT133 sT4.size g5 0 x6 HY0.out HQ6.out w_).trans (by simp)) _ _ rfl rfl rfl) rfl ?_)
          | ((with_reducible refine gate_d (N := 56) rfl ?_); refine ag_fix (.bool true) (ex_get sT4 g5 x6.toNat (.bool true) (av Value.bool hh) BK5b.out ((av_get false (by have := HHL.out; have := HQ6.out; have := HY0.out; omega)).trans (by rw [HHV.out])) _ rfl rfl) rfl ?_))
        (try simp only [Act.put, sI, sZ, sS])
        go_meet
        case rel => exact ⟨by rw [HGT.out], BK5b, BK8b, Mb⟩
       | false =>
        rw [if_neg (by decide)] at hgr_
        obtain ⟨Rv, hR_, hgr_⟩ := Option.map_eq_some_iff.1 hgr_
        have HRV := hid hR_
        have HGD := hid hgr_
        clear hgr_ hR_
        have rb : decide (Rv > 0) = gr := HGD.out
        have rb' : decide (0 < Rv) = gr := HGD.out
        go_wp2_with (first
          | ((with_reducible refine gate_d (N := 38) rfl ?_); refine ag_fix (.pointer (some ⟨g1, 0, none⟩)) (ex_field 46 0 (.pointer (some ⟨g1, 0, none⟩)) (.pointer (some ⟨g1, 0, none⟩)) (fa46_0_0 g1) _ rfl rfl) rfl ?_)
          | ((with_reducible refine gate_d (N := 39) rfl ?_); refine ag_fix (.agg (bv b)) (ex_load boardT g1 0 (pv b t c e) (bv b) M9.out.k1 (xv_lea HB.out) (xv_exa HB.out) _ rfl rfl) rfl ?_)
          | (go_at_call 83; clear t3; refine (i_alfilref09_Pawn.calls b x4 HB.out _ _ HPW.out).mono ?_; rintro e_ wa ⟨rfl, hb_⟩; have Ma := hid (M9.out.go hb_); have BK5a := hid (BK59.out.below hb_ BK59.out.lt); have BK8a := hid (BK89.out.below hb_ BK89.out.lt); clear hb_ M9 BK59 BK89)
          | ((with_reducible refine gate_d (N := 48) rfl ?_); refine ag_fix (.pointer (some ⟨g1, 0, none⟩)) (ex_field 46 0 (.pointer (some ⟨g1, 0, none⟩)) (.pointer (some ⟨g1, 0, none⟩)) (fa46_0_0 g1) _ rfl rfl) rfl ?_)
          | ((with_reducible refine gate_d (N := 49) rfl ?_); refine ag_fix (.agg (bv b)) (ex_load boardT g1 0 (pv b t c e) (bv b) Ma.out.k1 (xv_lea HB.out) (xv_exa HB.out) _ rfl rfl) rfl ?_)
          | (go_at_call 83; clear t6; refine (i_alfilref09_Pawn.calls b x4 HB.out _ _ HPW.out).mono ?_; rintro e_ wb ⟨rfl, hb_⟩; have Mb := hid (Ma.out.go hb_); have BK5b := hid (BK5a.out.below hb_ BK5a.out.lt); have BK8b := hid (BK8a.out.below hb_ BK8a.out.lt); clear hb_ Ma BK5a BK8a)
          | ((with_reducible refine gate_d (N := 55) rfl ?_); refine ag_fix (.pointer (some ⟨g5, x6.toNat, none⟩)) (ex_at 133 (.pointer (some ⟨g5, 0, none⟩)) (.int .i64 x6) (.pointer (some ⟨g5, x6.toNat, none⟩)) (fun w_ => (run_atv 4 uT133 sT4.size g5 0 x6 HY0.out HQ6.out w_).trans (by simp)) _ _ rfl rfl rfl) rfl ?_)
          | ((with_reducible refine gate_d (N := 56) rfl ?_); refine ag_fix (.bool false) (ex_get sT4 g5 x6.toNat (.bool false) (av Value.bool hh) BK5b.out ((av_get false (by have := HHL.out; have := HQ6.out; have := HY0.out; omega)).trans (by rw [HHV.out])) _ rfl rfl) rfl ?_)
          | ((with_reducible refine gate_d (N := 58) rfl ?_); refine ag_fix (.agg (pv b t c e)) (ex_load posT g1 0 (pv b t c e) (pv b t c e) Mb.out.k1 (xv_le HB.out 67 rfl) (xv_ex HB.out 67 rfl) _ rfl rfl) rfl ?_)
          | ((with_reducible refine gate_d (N := 59) rfl ?_); refine ag_fix (.agg #[.int .i64 x4, .int .i64 x6, .int .i64 x7]) (ex_load aT75 g8 0 #[.int .i64 x4, .int .i64 x6, .int .i64 x7] #[.int .i64 x4, .int .i64 x6, .int .i64 x7] BK8b.out (by simp) rfl _ rfl rfl) rfl ?_)
          | (go_at_call 85; clear t7; refine (i_alfilref09_Right.calls 200 b t c e x4 x6 x7 HB.out Rv _ HRV.out).mono ?_; rintro e_ wd ⟨rfl, hb_⟩; have Md := hid (Mb.out.go hb_); have BK5d := hid (BK5b.out.below hb_ BK5b.out.lt); have BK8d := hid (BK8b.out.below hb_ BK8b.out.lt); clear hb_ Mb BK5b BK8b))
        (try simp only [Act.put, sI, sZ, sS])
        go_meet
        case rel => exact ⟨rfl, BK5d, BK8d, Md⟩
     case rest =>
      obtain ⟨hs_, BK5e, BK8e, Me⟩ := hcut
      clear M9 BK59 BK89 hgr_
      subst hs_
      have t6 := True.intro
      cases gr with
      | false =>
       have HGR := HGB
       go_wp2_with fail
       (try simp only [Act.put, sI, sZ, sS])
       go_roundg K3
       case measure => omega
       case rel => exact ⟨_, n + 1, (by first | rfl | (simp; done)), DEC, hid (by have := HK4.out; omega), hid (by have := HN6.out; omega), BK5e, hid (Me.out.to_ (l3_no HPN.out HGR.out).symm)⟩
      | true =>
       have HGR := HGB
       go_wp2_with (first
         | ((with_reducible refine gate_d (N := 66) rfl ?_); refine ag_fix (.agg #[.int .i64 x4, .int .i64 x6, .int .i64 x7]) (ex_load aT75 g8 0 #[.int .i64 x4, .int .i64 x6, .int .i64 x7] #[.int .i64 x4, .int .i64 x6, .int .i64 x7] BK8e.out (by simp) rfl _ rfl rfl) rfl ?_)
         | ((with_reducible refine gate_d (N := 67) rfl ?_); clear t5; obtain ⟨gl, hgl⟩ : ∃ g_, wc.heap.size = g_ := ⟨_, rfl⟩; refine ag_litA (e := 75) 1 #[.int .i64 x4, .int .i64 x6, .int .i64 x7] gl hgl rfl _ rfl (fun w_ => by (try simp only [List.map_toArray, List.map_cons, List.map_nil]); kernel_rfl) ?_; intro wl hb_ hB_ hs_; have Ml := hid (Me.out.go (by rw [hgl]; exact hb_)); have BK5l := hid (BK5e.out.below hb_ (by rw [← hgl]; exact BK5e.out.lt)); have BKl := hid hB_; clear hb_ hB_ hs_ hgl Me BK5e)
         | (at_builtin; clear t6; refine app_n (len := (l3Z b t c e i j n).length) kN72 w.heap.size _ ((l3Z b t c e i j n).flatMap enM) (enM (x4, x6, x7)) gl 1 Ml.out.ow BKl.out rfl (by intro u_ hu_; simp [enM] at hu_; rcases hu_ with rfl | rfl | rfl <;> rfl) (by have h_ := l3_len b t c e i j n; have := HI6.out; have := HJ6.out; omega) (by have h_ := l3_len b t c e i j n; have := HI6.out; have := HJ6.out; unfold maxLen; omega) Ml.out.hl.size rfl _ _ rfl rfl rfl ?_; intro uo wo ho_ hb_ hk_ hi_; have Mo : Hid (AlM w wo b t c e g1 uo (l3Z b t c e i j (n + 1))) := hid ⟨Ml.out.hl.trans hb_, hk_ _ _ _ (by decide) Ml.out.k1, by rw [l3_yes HPN.out HGR.out, ← HI.out, ← HJ.out]; exact OwnN.snoc ho_⟩; have BK5o := hid (hk_ _ _ _ (by decide) BK5l.out); clear ho_ hb_ hk_ hi_ Ml BK5l BKl))
       (try simp only [Act.put, sI, sZ, sS])
       go_roundg K3
       case measure => omega
       case rel => exact ⟨_, n + 1, (by first | rfl | (simp; done)), DEC, hid (by have := HK4.out; omega), hid (by have := HN6.out; omega), BK5o, Mo⟩
end Go.Proofs.Ytpjocgebnodnoaa
