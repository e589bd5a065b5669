/- Tables: where a new entry goes. -/
import Derived.Test.YtpjocgebnodnoaaUc
namespace Go.Proofs.Ytpjocgebnodnoaa
open Go.RowKit
set_option linter.unusedVariables false
set_option linter.unusedSimpArgs false
set_option maxRecDepth 100000
def depZ (L : Slots) (i : Nat) : Int := match nt L i none with | some (q, _) => q.2.2.2.2 | none => 0
/-- a place: the first that is empty, else the least depth's (the first of these). -/
def roomG (L : Slots) : Option Nat → List Nat → Option Nat
  | best, [] => best
  | best, i :: l => if nt L i none = none then some i else roomG L (match best with | none => some i | some b => if depZ L i < depZ L b then some i else some b) l
def roomZ (L : Slots) (q : Key) : Nat := (roomG L none (rowZ L.length q)).getD 0
theorem roomG_in (L : Slots) : ∀ (l : List Nat) (best : Option Nat) (n : Nat), (∀ i ∈ l, i < n) → (∀ b, best = some b → b < n) → ∀ b, roomG L best l = some b → b < n
  | [], best, n, _, hb, b, h => hb b h
  | i :: l, best, n, hl, hb, b, h => by
    unfold roomG at h
    split at h
    · injection h with h; subst h; exact hl _ (by simp)
    · refine roomG_in L l _ n (fun j hj => hl j (by simp [hj])) (fun b2 h2 => ?_) b h
      cases best with
      | none => injection h2 with h2; subst h2; exact hl _ (by simp)
      | some b3 =>
        simp only at h2
        split at h2
        · injection h2 with h2; subst h2; exact hl _ (by simp)
        · injection h2 with h2; subst h2; exact hb _ rfl
theorem roomZ_lt {L : Slots} (q : Key) (h : 0 < L.length) : roomZ L q < L.length := by
  unfold roomZ
  cases e : roomG L none (rowZ L.length q) with
  | none => exact h
  | some b => exact roomG_in L _ _ _ (fun i hi => rowZ_lt h q i hi) (fun _ h => by cases h) b e
def BestI (L : Slots) (best : Option Nat) (x : Int) : Prop := match best with | none => x = -1 | some b => x = (b : Int) ∧ b < L.length ∧ nt L b none ≠ none
theorem room_here {L : Slots} {l : List Nat} {j at_ : Nat} {best : Option Nat} (hj : j < l.length) (ha : nt l j 0 = at_) (hn : nt L at_ none = none) : roomG L best (l.drop j) = some at_ := by
  have e : nt l j 0 = l[j] := by unfold nt; simp [List.getD, List.getElem?_eq_getElem hj]
  rw [List.drop_eq_getElem_cons hj, ← e, ha]; unfold roomG; rw [if_pos hn]
theorem room_on {L : Slots} {l : List Nat} {j at_ : Nat} {best b' : Option Nat} (hj : j < l.length) (ha : nt l j 0 = at_) (hn : nt L at_ none ≠ none) (hb : (match best with | none => some at_ | some b => if depZ L at_ < depZ L b then some at_ else some b) = b') : roomG L best (l.drop j) = roomG L b' (l.drop (j + 1)) := by
  have e : nt l j 0 = l[j] := by unfold nt; simp [List.getD, List.getElem?_eq_getElem hj]
  rw [List.drop_eq_getElem_cons hj, ← e, ha]; conv => lhs; unfold roomG
  rw [if_neg hn, hb]
theorem ent_depth {q : Key} {x : Int} (h : q.1.length = 64) : (entC q x)[67]? = some (.int .i64 q.2.2.2.2) := (xv_cell (n := 64) h 3 67 rfl).trans rfl
theorem ent_value {q : Key} {x : Int} (h : q.1.length = 64) : (entC q x)[68]? = some (.int .i64 x) := (xv_cell (n := 64) h 4 68 rfl).trans rfl
set_option maxHeartbeats 40000000 in
theorem room_calls {w : World} {F : Nat → Prop} {L : Slots} {g a : Nat} {ps : Array Value} (h : TBx w F L g a ps) (q : Key) (hq : GoodKey q) :
    Calls Try.prog 57 #[.pointer (some ⟨g, 0, none⟩), .agg (keyC q)] w fun e w' => e = .returned (.int .i64 ((roomZ L q : Nat) : Int)) ∧ Below w.heap.size w w' := by
 have HL := hid (Below.refl w.heap.size w)
 have TB := hid h
 have HQ := hid hq.1
 have HGK := hid hq
 have HP := hid h.pos
 have HB := hid h.bd
 obtain ⟨l, hl_⟩ : ∃ l, rowZ L.length q = l := ⟨_, rfl⟩
 have HLR := hid hl_
 have HLP : Hid (0 < l.length) := hid (by rw [← hl_, rowZ_len]; have := h.pos; omega)
 have HLn : Hid (l.length ≤ 4) := hid (by rw [← hl_, rowZ_len]; omega)
 have HIN : Hid (∀ j, j < l.length → nt l j 0 < L.length) := hid (fun j hj => rowZ_lt h.pos q _ (by rw [hl_]; exact nt_in hj))
 clear h hq hl_
 go_enter Try.func57, Try.ntmps57
 have k1 := True.intro
 have k2 := True.intro
 go_wp2_with (first
  | ((with_reducible refine gate_d (N := 3) rfl ?_); clear k1; obtain ⟨gq, hgq⟩ : ∃ g_, w.heap.size = g_ := ⟨_, rfl⟩; refine ag_box (keyC q) gq hgq rfl _ rfl rfl ?_; intro w1 hb_ hB_ hs_; have HL1 := hid (HL.out.trans (hb_.mono (by rw [← hgq]; exact HL.out.size))); have TB1 := hid (TB.out.below (by rw [hgq]; exact hb_)); have BKq := hid hB_; clear hb_ hB_ hs_ hgq HL TB)
  | ((with_reducible refine gate_d (N := 9) rfl ?_); refine ag_fix (.agg (keyC q)) (ex_load t_aT98 gq 0 (keyC q) (keyC q) BKq.out (by rw [keyC_size HQ.out]; omega) (key_all HQ.out) _ rfl rfl) rfl ?_)
  | (go_at_call 97; clear k2; refine (row_calls TB1.out q HGK.out).mono ?_; rintro e_ w2 ⟨u, rfl, so_, hb_⟩; have HL2 := hid (HL1.out.trans (hb_.mono HL1.out.size)); have TB2 := hid (TB1.out.below hb_); have BKq2 := hid (BKq.out.below hb_ BKq.out.lt); have SO2 : Hid (Own w2 0 3 u ((l.map Int.ofNat).map (Value.int .i64))) := hid (by have h_ := so_; unfold rowV at h_; rw [HLR.out] at h_; exact h_.mono (Nat.zero_le _)); clear so_ hb_ HL1 TB1 BKq)
  | ((with_reducible refine gate_d (N := 11) rfl ?_); obtain ⟨A_, c_, hv_⟩ := SO2.out.sl.shape; rw [List.length_map, List.length_map] at hv_; refine ag_fix (.int .i64 (l.length : Int)) (ex_len t_us27 _ _ _ _ hv_ _ rfl rfl) rfl ?_; clear hv_))
 (try simp only [Act.put, sI, sZ, sS])

 go_loopg [5, 12] 5 (fun kq v5 v12 w' => ∃ (x5 x12 : Int) (j : Nat) (best : Option Nat), v5 = .int .i64 x5 ∧ v12 = .int .i64 x12 ∧ Hid (x12 = (j : Int)) ∧ Hid (kq + j = 5) ∧ Hid (j ≤ l.length) ∧ Hid (BestI L best x5) ∧ Hid (0 < j → best ≠ none) ∧ Hid (roomG L best (l.drop j) = roomG L none l) ∧ Hid (Own w' 0 3 u ((l.map Int.ofNat).map (Value.int .i64))) ∧ Hid (Blk w' gq 98 (keyC q)) ∧ Hid (TBx w' F L g a ps) ∧ Hid (Below w.heap.size w w'))
 case atStart => exact ⟨-1, 0, 0, none, (by first | rfl | (simp; done)), (by first | rfl | (simp; done)), hid rfl, hid (by omega), hid (by omega), hid rfl, hid (fun h_ => absurd h_ (by omega)), hid rfl, SO2, BKq2, TB2, HL2⟩
 case round =>
  clear TB2 HL2 SO2 BKq2
  obtain ⟨x5, x12, j, best, rfl, rfl, HJ, HK2, HJM, HBI, HBN, HRG, SO, BKq, TB, HL⟩ := hrel
  obtain ⟨K1, rfl⟩ : ∃ K_, gk = K_ + 1 := ⟨gk - 1, by have := HK2.out; have := HJM.out; have := HLn.out; omega⟩
  by_cases c : x12 < (l.length : Int)
  ·
   have cb : decide (x12 < (l.length : Int)) = true := decide_eq_true c
   have HC := hid c
   clear c
   have HJ0 : Hid (0 ≤ x12) := hid (by have := HJ.out; omega)
   have HJL : Hid (j < l.length) := hid (by have := HJ.out; have := HC.out; omega)
   obtain ⟨at_, hat_⟩ : ∃ z, nt l j 0 = z := ⟨_, rfl⟩
   have HAT := hid hat_
   have HAL : Hid (at_ < L.length) := hid (by rw [← hat_]; exact HIN.out j HJL.out)
   have HNT : Hid (nt (l.map Int.ofNat) x12.toNat 0 = (at_ : Int)) := hid (by rw [← hat_, show x12.toNat = j by have := HJ.out; omega]; exact nt_map HJL.out)
   clear hat_
   obtain ⟨ad, c0, hv_, hc_⟩ := Sl.get (l := l.map Int.ofNat) (f := Value.int .i64) SO.out.sl 0 (i := x12) HJ0.out (by rw [List.length_map]; exact HC.out)
   rw [HNT.out] at hc_
   rw [List.length_map] at hv_
   have HV := hid hv_
   have HCE := hid hc_
   clear hv_ hc_
   cases hs_ : nt L at_ none with
   | none =>
    have HPS := hid (TB.out.none_ at_ HAL.out hs_)
    have HZ : Hid (roomZ L q = at_) := hid (by unfold roomZ; rw [HLR.out, ← HRG.out, room_here HJL.out HAT.out hs_]; rfl)
    clear hs_
    go_wp2_with (first
     | ((with_reducible refine gate_d (N := 14) rfl ?_); refine ag_fix (.pointer (some (ad.add x12.toNat))) (ex_sat _ _ x12 _ _ HV.out HJ0.out HC.out t_us27 t_sT3 _ _ rfl rfl rfl) rfl ?_)
     | ((with_reducible refine gate_d (N := 15) rfl ?_); refine ag_fix (.int .i64 (at_ : Int)) (ex_scell t_sT3 _ _ HCE.out _ rfl rfl) rfl ?_)
     | ((with_reducible refine gate_d (N := 18) rfl ?_); refine ag_fix (.pointer (some ⟨g, 0, none⟩)) (ex_field 96 0 (.pointer (some ⟨g, 0, none⟩)) (.pointer (some ⟨g, 0, none⟩)) (t_fa96_0 g) _ rfl rfl) rfl ?_)
     | ((with_reducible refine gate_d (N := 19) rfl ?_); refine ag_fix (.slice (some ⟨a, 0, none⟩) L.length L.length) (ex_get t_sT94 g 0 (.slice (some ⟨a, 0, none⟩) L.length L.length) #[.slice (some ⟨a, 0, none⟩) L.length L.length] TB.out.tab rfl _ rfl rfl) rfl ?_)
     | ((with_reducible refine gate_d (N := 21) rfl ?_); refine ag_fix (.pointer (some ⟨a, at_, none⟩)) (ex_satA a _ _ (at_ : Int) at_ rfl HAL.out t_us94 t_sT99 _ _ rfl rfl rfl) rfl ?_)
     | ((with_reducible refine gate_d (N := 22) rfl ?_); refine ag_fix (.pointer none) (ex_get t_sT99 a at_ (.pointer none) ps TB.out.row HPS.out _ rfl rfl) rfl ?_))
    (try simp only [Act.put, sI, sZ, sS])
    go_ret
    exact ⟨by rw [HZ.out]; rfl, HL.out⟩
   | some z =>
    obtain ⟨q', x'⟩ := z
    obtain ⟨b, hp_, hb_, hf_, hq_⟩ := TB.out.some_ at_ q' x' HAL.out hs_
    have HPS := hid hp_
    have BKb := hid hb_
    have HQ' := hid hq_
    have HNN : Hid (nt L at_ none ≠ none) := hid (by rw [hs_]; simp)
    have HD1 : Hid (depZ L at_ = q'.2.2.2.2) := hid (by unfold depZ; rw [hs_])
    clear hs_ hp_ hb_ hf_ hq_
    cases best with
    | none =>
     have HXB : Hid (x5 = -1) := hid HBI.out
     have cn : decide (x5 < (0 : Int)) = true := decide_eq_true (by have := HXB.out; omega)
     go_wp2_with (first
      | ((with_reducible refine gate_d (N := 14) rfl ?_); refine ag_fix (.pointer (some (ad.add x12.toNat))) (ex_sat _ _ x12 _ _ HV.out HJ0.out HC.out t_us27 t_sT3 _ _ rfl rfl rfl) rfl ?_)
      | ((with_reducible refine gate_d (N := 15) rfl ?_); refine ag_fix (.int .i64 (at_ : Int)) (ex_scell t_sT3 _ _ HCE.out _ rfl rfl) rfl ?_)
      | ((with_reducible refine gate_d (N := 18) rfl ?_); refine ag_fix (.pointer (some ⟨g, 0, none⟩)) (ex_field 96 0 (.pointer (some ⟨g, 0, none⟩)) (.pointer (some ⟨g, 0, none⟩)) (t_fa96_0 g) _ rfl rfl) rfl ?_)
      | ((with_reducible refine gate_d (N := 19) rfl ?_); refine ag_fix (.slice (some ⟨a, 0, none⟩) L.length L.length) (ex_get t_sT94 g 0 (.slice (some ⟨a, 0, none⟩) L.length L.length) #[.slice (some ⟨a, 0, none⟩) L.length L.length] TB.out.tab rfl _ rfl rfl) rfl ?_)
      | ((with_reducible refine gate_d (N := 21) rfl ?_); refine ag_fix (.pointer (some ⟨a, at_, none⟩)) (ex_satA a _ _ (at_ : Int) at_ rfl HAL.out t_us94 t_sT99 _ _ rfl rfl rfl) rfl ?_)
      | ((with_reducible refine gate_d (N := 22) rfl ?_); refine ag_fix (.pointer (some ⟨b, 0, none⟩)) (ex_get t_sT99 a at_ (.pointer (some ⟨b, 0, none⟩)) ps TB.out.row HPS.out _ rfl rfl) rfl ?_))
     (try simp only [Act.put, sI, sZ, sS])
     have WR64 := i64_w
     refine sq_region (fun w'_ => Blk w'_ g 96 #[.slice (some ⟨a, 0, none⟩) L.length L.length] ∧ Blk w'_ a 99 ps ∧ Blk w'_ b 102 (entC q' x')) [] [(0, 2), (1, 2), (2, 2), (3, 2), (4, 2), (5, 2), (6, 2), (7, 2), (8, 2), (9, 2), (10, 2), (11, 2), (12, 2), (13, 2), (14, 2), (15, 2), (16, 2), (17, 2), (18, 2), (19, 2), (20, 2), (21, 2), (22, 2), (23, 2), (24, 2), (25, 2), (26, 2)] (by kernel_rfl) (by kernel_rfl) (by kernel_rfl) rfl ?_
     intro w3 hb_
     have HL3 := hid (HL.out.trans (hb_.mono HL.out.size))
     have TB3 := hid (TB.out.below hb_)
     have BKq3 := hid (BKq.out.below hb_ BKq.out.lt)
     have SO3 := hid (SO.out.below hb_)
     have BKb3 := hid (BKb.out.below hb_ BKb.out.lt)
     clear hb_ HL TB BKq SO HCE BKb
     refine sq_pure (.int .i64 x5) rfl (fun w'_ => by go_simp) rfl rfl ?_
     intro ts_ ht_; simp only [sI, sZ, sS] at ht_; subst ht_
     refine sq_pure (.bool true) rfl (fun w'_ => by go_simp; try rw [cn]) rfl rfl ?_
     intro ts_ ht_; simp only [sI, sZ, sS] at ht_; subst ht_
     refine sq_pure (.bool true) rfl (fun w'_ => by go_simp) rfl rfl ?_
     intro ts_ ht_; simp only [sI, sZ, sS] at ht_; subst ht_
     refine sq_not 2 true rfl rfl rfl rfl ?_
     intro ts_ ht_; simp only [sI, sZ, sS] at ht_; subst ht_
     refine sq_not 2 true rfl rfl rfl rfl ?_
     intro ts_ ht_; simp only [sI, sZ, sS] at ht_; subst ht_
     refine sq_not 2 true rfl rfl rfl rfl ?_
     intro ts_ ht_; simp only [sI, sZ, sS] at ht_; subst ht_
     refine sq_not 2 true rfl rfl rfl rfl ?_
     intro ts_ ht_; simp only [sI, sZ, sS] at ht_; subst ht_
     refine sq_not 2 true rfl rfl rfl rfl ?_
     intro ts_ ht_; simp only [sI, sZ, sS] at ht_; subst ht_
     refine sq_not 2 true rfl rfl rfl rfl ?_
     intro ts_ ht_; simp only [sI, sZ, sS] at ht_; subst ht_
     refine sq_not 2 true rfl rfl rfl rfl ?_
     intro ts_ ht_; simp only [sI, sZ, sS] at ht_; subst ht_
     refine sq_not 2 true rfl rfl rfl rfl ?_
     intro ts_ ht_; simp only [sI, sZ, sS] at ht_; subst ht_
     refine sq_not 2 true rfl rfl rfl rfl ?_
     intro ts_ ht_; simp only [sI, sZ, sS] at ht_; subst ht_
     refine sq_not 2 true rfl rfl rfl rfl ?_
     intro ts_ ht_; simp only [sI, sZ, sS] at ht_; subst ht_
     refine sq_not 2 true rfl rfl rfl rfl ?_
     intro ts_ ht_; simp only [sI, sZ, sS] at ht_; subst ht_
     refine sq_not 2 true rfl rfl rfl rfl ?_
     intro ts_ ht_; simp only [sI, sZ, sS] at ht_; subst ht_
     refine sq_not 2 true rfl rfl rfl rfl ?_
     intro ts_ ht_; simp only [sI, sZ, sS] at ht_; subst ht_
     refine sq_not 2 true rfl rfl rfl rfl ?_
     intro ts_ ht_; simp only [sI, sZ, sS] at ht_; subst ht_
     refine sq_not 2 true rfl rfl rfl rfl ?_
     intro ts_ ht_; simp only [sI, sZ, sS] at ht_; subst ht_
     refine sq_not 2 true rfl rfl rfl rfl ?_
     intro ts_ ht_; simp only [sI, sZ, sS] at ht_; subst ht_
     refine sq_not 2 true rfl rfl rfl rfl ?_
     intro ts_ ht_; simp only [sI, sZ, sS] at ht_; subst ht_
     refine sq_not 2 true rfl rfl rfl rfl ?_
     intro ts_ ht_; simp only [sI, sZ, sS] at ht_; subst ht_
     refine sq_not 2 true rfl rfl rfl rfl ?_
     intro ts_ ht_; simp only [sI, sZ, sS] at ht_; subst ht_
     refine sq_not 2 true rfl rfl rfl rfl ?_
     intro ts_ ht_; simp only [sI, sZ, sS] at ht_; subst ht_
     refine sq_not 2 true rfl rfl rfl rfl ?_
     intro ts_ ht_; simp only [sI, sZ, sS] at ht_; subst ht_
     refine sq_not 2 true rfl rfl rfl rfl ?_
     intro ts_ ht_; simp only [sI, sZ, sS] at ht_; subst ht_
     refine sq_not 2 true rfl rfl rfl rfl ?_
     intro ts_ ht_; simp only [sI, sZ, sS] at ht_; subst ht_
     refine sq_pure (.bool true) rfl (fun w'_ => by go_simp) rfl rfl ?_
     intro ts_ ht_; simp only [sI, sZ, sS] at ht_; subst ht_
     refine sq_end ?_
     clear WR64
     go_wp2_with fail
     go_roundg K1
     case measure => omega
     case rel => exact ⟨(at_ : Int), _, j + 1, some at_, rfl, rfl, hid (by have := HJ.out; have := HJM.out; have := HLn.out; rw [k64 (by omega) (by omega)]; omega), hid (by have := HK2.out; omega), hid (by have := HJL.out; omega), hid ⟨rfl, HAL.out, HNN.out⟩, hid (fun _ => by simp), hid ((room_on (best := none) (b' := some at_) HJL.out HAT.out HNN.out rfl).symm.trans HRG.out), SO3, BKq3, TB3, HL3⟩
    | some bi =>
     obtain ⟨hx5_, hbi_, hne_⟩ : x5 = (bi : Int) ∧ bi < L.length ∧ nt L bi none ≠ none := HBI.out
     subst hx5_
     have HBL := hid hbi_
     have cn : decide ((bi : Int) < (0 : Int)) = false := decide_eq_false (by omega)
     obtain ⟨z2, hz2_⟩ : ∃ z, nt L bi none = some z := Option.ne_none_iff_exists'.1 hne_
     obtain ⟨q2, x2⟩ := z2
     obtain ⟨b2, hp_, hb_, hf_, hq_⟩ := TB.out.some_ bi q2 x2 hbi_ hz2_
     have HPS2 := hid hp_
     have BKc := hid hb_
     have HQ2 := hid hq_
     have HNB : Hid (nt L bi none ≠ none) := hid hne_
     have HD2 : Hid (depZ L bi = q2.2.2.2.2) := hid (by unfold depZ; rw [hz2_])
     clear hp_ hb_ hf_ hq_ hz2_ hne_ hbi_ HBI
     by_cases e_ : q'.2.2.2.2 < q2.2.2.2.2
     ·
      have ce : decide (q'.2.2.2.2 < q2.2.2.2.2) = true := decide_eq_true e_
      have HE := hid e_
      clear e_
      go_wp2_with (first
       | ((with_reducible refine gate_d (N := 14) rfl ?_); refine ag_fix (.pointer (some (ad.add x12.toNat))) (ex_sat _ _ x12 _ _ HV.out HJ0.out HC.out t_us27 t_sT3 _ _ rfl rfl rfl) rfl ?_)
       | ((with_reducible refine gate_d (N := 15) rfl ?_); refine ag_fix (.int .i64 (at_ : Int)) (ex_scell t_sT3 _ _ HCE.out _ rfl rfl) rfl ?_)
       | ((with_reducible refine gate_d (N := 18) rfl ?_); refine ag_fix (.pointer (some ⟨g, 0, none⟩)) (ex_field 96 0 (.pointer (some ⟨g, 0, none⟩)) (.pointer (some ⟨g, 0, none⟩)) (t_fa96_0 g) _ rfl rfl) rfl ?_)
       | ((with_reducible refine gate_d (N := 19) rfl ?_); refine ag_fix (.slice (some ⟨a, 0, none⟩) L.length L.length) (ex_get t_sT94 g 0 (.slice (some ⟨a, 0, none⟩) L.length L.length) #[.slice (some ⟨a, 0, none⟩) L.length L.length] TB.out.tab rfl _ rfl rfl) rfl ?_)
       | ((with_reducible refine gate_d (N := 21) rfl ?_); refine ag_fix (.pointer (some ⟨a, at_, none⟩)) (ex_satA a _ _ (at_ : Int) at_ rfl HAL.out t_us94 t_sT99 _ _ rfl rfl rfl) rfl ?_)
       | ((with_reducible refine gate_d (N := 22) rfl ?_); refine ag_fix (.pointer (some ⟨b, 0, none⟩)) (ex_get t_sT99 a at_ (.pointer (some ⟨b, 0, none⟩)) ps TB.out.row HPS.out _ rfl rfl) rfl ?_))
      (try simp only [Act.put, sI, sZ, sS])
      have WR64 := i64_w
      refine sq_region (fun w'_ => Blk w'_ g 96 #[.slice (some ⟨a, 0, none⟩) L.length L.length] ∧ Blk w'_ a 99 ps ∧ Blk w'_ b 102 (entC q' x') ∧ Blk w'_ b2 102 (entC q2 x2)) [] [(0, 2), (1, 2), (2, 2), (3, 2), (4, 2), (5, 2), (6, 1), (7, 2), (8, 2), (9, 1), (10, 2), (11, 2), (12, 2), (13, 1), (14, 2), (15, 2), (16, 2), (17, 1), (18, 2), (19, 2), (20, 1), (21, 2), (22, 2), (23, 2), (24, 1), (25, 2), (26, 2)] (by kernel_rfl) (by kernel_rfl) (by kernel_rfl) rfl ?_
      intro w3 hb_
      have HL3 := hid (HL.out.trans (hb_.mono HL.out.size))
      have TB3 := hid (TB.out.below hb_)
      have BKq3 := hid (BKq.out.below hb_ BKq.out.lt)
      have SO3 := hid (SO.out.below hb_)
      have BKb3 := hid (BKb.out.below hb_ BKb.out.lt)
      have BKc3 := hid (BKc.out.below hb_ BKc.out.lt)
      clear hb_ HL TB BKq SO HCE BKb BKc
      refine sq_pure (.int .i64 (bi : Int)) rfl (fun w'_ => by go_simp) rfl rfl ?_
      intro ts_ ht_; simp only [sI, sZ, sS] at ht_; subst ht_
      refine sq_pure (.bool false) rfl (fun w'_ => by go_simp; try rw [cn]) rfl rfl ?_
      intro ts_ ht_; simp only [sI, sZ, sS] at ht_; subst ht_
      refine sq_pure (.bool false) rfl (fun w'_ => by go_simp) rfl rfl ?_
      intro ts_ ht_; simp only [sI, sZ, sS] at ht_; subst ht_
      refine sq_pure (.pointer (some ⟨g, 0, none⟩)) rfl (fun w'_ => by go_simp) rfl rfl ?_
      intro ts_ ht_; simp only [sI, sZ, sS] at ht_; subst ht_
      refine sq_pure (.pointer (some ⟨g, 0, none⟩)) rfl (fun w'_ => by go_simp) rfl rfl ?_
      intro ts_ ht_; simp only [sI, sZ, sS] at ht_; subst ht_
      refine sq_pure (.pointer (some ⟨g, 0, none⟩)) rfl (fun w'_ => ex_field 96 0 (.pointer (some ⟨g, 0, none⟩)) (.pointer (some ⟨g, 0, none⟩)) (t_fa96_0 g) _ rfl rfl) rfl rfl ?_
      intro ts_ ht_; simp only [sI, sZ, sS] at ht_; subst ht_
      refine sq_take (.slice (some ⟨a, 0, none⟩) L.length L.length) ⟨TB3.out.tab, TB3.out.row, BKb3.out, BKc3.out⟩ rfl (fun w'_ hS_ => ex_get t_sT94 g 0 (.slice (some ⟨a, 0, none⟩) L.length L.length) #[.slice (some ⟨a, 0, none⟩) L.length L.length] hS_.1 rfl _ rfl rfl) rfl rfl ?_
      intro ts_ ht_; simp only [sI, sZ, sS] at ht_; subst ht_
      refine sq_pure (.int .i64 (at_ : Int)) rfl (fun w'_ => by go_simp) rfl rfl ?_
      intro ts_ ht_; simp only [sI, sZ, sS] at ht_; subst ht_
      refine sq_pure (.pointer (some ⟨a, at_, none⟩)) rfl (fun w'_ => ex_satA a _ _ (at_ : Int) at_ rfl HAL.out t_us94 t_sT99 _ _ rfl rfl rfl) rfl rfl ?_
      intro ts_ ht_; simp only [sI, sZ, sS] at ht_; subst ht_
      refine sq_take (.pointer (some ⟨b, 0, none⟩)) ⟨TB3.out.tab, TB3.out.row, BKb3.out, BKc3.out⟩ rfl (fun w'_ hS_ => ex_get t_sT99 a at_ (.pointer (some ⟨b, 0, none⟩)) ps hS_.2.1 HPS.out _ rfl rfl) rfl rfl ?_
      intro ts_ ht_; simp only [sI, sZ, sS] at ht_; subst ht_
      refine sq_pure (.pointer (some ⟨b, 0, none⟩)) rfl (fun w'_ => by go_simp) rfl rfl ?_
      intro ts_ ht_; simp only [sI, sZ, sS] at ht_; subst ht_
      refine sq_pure (.pointer (some ⟨b, 0, none⟩)) rfl (fun w'_ => ex_field 102 0 (.pointer (some ⟨b, 0, none⟩)) (.pointer (some ⟨b, 0, none⟩)) (t_fa102_0 b) _ rfl rfl) rfl rfl ?_
      intro ts_ ht_; simp only [sI, sZ, sS] at ht_; subst ht_
      refine sq_pure (.pointer (some ⟨b, 67, none⟩)) rfl (fun w'_ => ex_field 98 1 (.pointer (some ⟨b, 0, none⟩)) (.pointer (some ⟨b, 67, none⟩)) (t_fa98_1 b) _ rfl rfl) rfl rfl ?_
      intro ts_ ht_; simp only [sI, sZ, sS] at ht_; subst ht_
      refine sq_take (.int .i64 q'.2.2.2.2) ⟨TB3.out.tab, TB3.out.row, BKb3.out, BKc3.out⟩ rfl (fun w'_ hS_ => ex_get t_sT3 b 67 (.int .i64 q'.2.2.2.2) (entC q' x') (hS_.2.2.1) (ent_depth HQ'.out) _ rfl rfl) rfl rfl ?_
      intro ts_ ht_; simp only [sI, sZ, sS] at ht_; subst ht_
      refine sq_pure (.pointer (some ⟨g, 0, none⟩)) rfl (fun w'_ => by go_simp) rfl rfl ?_
      intro ts_ ht_; simp only [sI, sZ, sS] at ht_; subst ht_
      refine sq_pure (.pointer (some ⟨g, 0, none⟩)) rfl (fun w'_ => by go_simp) rfl rfl ?_
      intro ts_ ht_; simp only [sI, sZ, sS] at ht_; subst ht_
      refine sq_pure (.pointer (some ⟨g, 0, none⟩)) rfl (fun w'_ => ex_field 96 0 (.pointer (some ⟨g, 0, none⟩)) (.pointer (some ⟨g, 0, none⟩)) (t_fa96_0 g) _ rfl rfl) rfl rfl ?_
      intro ts_ ht_; simp only [sI, sZ, sS] at ht_; subst ht_
      refine sq_take (.slice (some ⟨a, 0, none⟩) L.length L.length) ⟨TB3.out.tab, TB3.out.row, BKb3.out, BKc3.out⟩ rfl (fun w'_ hS_ => ex_get t_sT94 g 0 (.slice (some ⟨a, 0, none⟩) L.length L.length) #[.slice (some ⟨a, 0, none⟩) L.length L.length] hS_.1 rfl _ rfl rfl) rfl rfl ?_
      intro ts_ ht_; simp only [sI, sZ, sS] at ht_; subst ht_
      refine sq_pure (.int .i64 (bi : Int)) rfl (fun w'_ => by go_simp) rfl rfl ?_
      intro ts_ ht_; simp only [sI, sZ, sS] at ht_; subst ht_
      refine sq_pure (.pointer (some ⟨a, bi, none⟩)) rfl (fun w'_ => ex_satA a _ _ (bi : Int) bi rfl HBL.out t_us94 t_sT99 _ _ rfl rfl rfl) rfl rfl ?_
      intro ts_ ht_; simp only [sI, sZ, sS] at ht_; subst ht_
      refine sq_take (.pointer (some ⟨b2, 0, none⟩)) ⟨TB3.out.tab, TB3.out.row, BKb3.out, BKc3.out⟩ rfl (fun w'_ hS_ => ex_get t_sT99 a bi (.pointer (some ⟨b2, 0, none⟩)) ps hS_.2.1 HPS2.out _ rfl rfl) rfl rfl ?_
      intro ts_ ht_; simp only [sI, sZ, sS] at ht_; subst ht_
      refine sq_pure (.pointer (some ⟨b2, 0, none⟩)) rfl (fun w'_ => by go_simp) rfl rfl ?_
      intro ts_ ht_; simp only [sI, sZ, sS] at ht_; subst ht_
      refine sq_pure (.pointer (some ⟨b2, 0, none⟩)) rfl (fun w'_ => ex_field 102 0 (.pointer (some ⟨b2, 0, none⟩)) (.pointer (some ⟨b2, 0, none⟩)) (t_fa102_0 b2) _ rfl rfl) rfl rfl ?_
      intro ts_ ht_; simp only [sI, sZ, sS] at ht_; subst ht_
      refine sq_pure (.pointer (some ⟨b2, 67, none⟩)) rfl (fun w'_ => ex_field 98 1 (.pointer (some ⟨b2, 0, none⟩)) (.pointer (some ⟨b2, 67, none⟩)) (t_fa98_1 b2) _ rfl rfl) rfl rfl ?_
      intro ts_ ht_; simp only [sI, sZ, sS] at ht_; subst ht_
      refine sq_take (.int .i64 q2.2.2.2.2) ⟨TB3.out.tab, TB3.out.row, BKb3.out, BKc3.out⟩ rfl (fun w'_ hS_ => ex_get t_sT3 b2 67 (.int .i64 q2.2.2.2.2) (entC q2 x2) (hS_.2.2.2) (ent_depth HQ2.out) _ rfl rfl) rfl rfl ?_
      intro ts_ ht_; simp only [sI, sZ, sS] at ht_; subst ht_
      refine sq_pure (.bool true) rfl (fun w'_ => by go_simp; try rw [ce]) rfl rfl ?_
      intro ts_ ht_; simp only [sI, sZ, sS] at ht_; subst ht_
      refine sq_pure (.bool true) rfl (fun w'_ => by go_simp) rfl rfl ?_
      intro ts_ ht_; simp only [sI, sZ, sS] at ht_; subst ht_
      refine sq_end ?_
      clear WR64
      go_wp2_with fail
      go_roundg K1
      case measure => omega
      case rel => exact ⟨(at_ : Int), _, j + 1, some at_, rfl, rfl, hid (by have := HJ.out; have := HJM.out; have := HLn.out; rw [k64 (by omega) (by omega)]; omega), hid (by have := HK2.out; omega), hid (by have := HJL.out; omega), hid ⟨rfl, HAL.out, HNN.out⟩, hid (fun _ => by simp), hid ((room_on (best := some bi) (b' := some at_) HJL.out HAT.out HNN.out (if_pos (show depZ L at_ < depZ L bi by rw [HD1.out, HD2.out]; exact HE.out))).symm.trans HRG.out), SO3, BKq3, TB3, HL3⟩
     ·
      have ce : decide (q'.2.2.2.2 < q2.2.2.2.2) = false := decide_eq_false e_
      have HE := hid e_
      clear e_
      go_wp2_with (first
       | ((with_reducible refine gate_d (N := 14) rfl ?_); refine ag_fix (.pointer (some (ad.add x12.toNat))) (ex_sat _ _ x12 _ _ HV.out HJ0.out HC.out t_us27 t_sT3 _ _ rfl rfl rfl) rfl ?_)
       | ((with_reducible refine gate_d (N := 15) rfl ?_); refine ag_fix (.int .i64 (at_ : Int)) (ex_scell t_sT3 _ _ HCE.out _ rfl rfl) rfl ?_)
       | ((with_reducible refine gate_d (N := 18) rfl ?_); refine ag_fix (.pointer (some ⟨g, 0, none⟩)) (ex_field 96 0 (.pointer (some ⟨g, 0, none⟩)) (.pointer (some ⟨g, 0, none⟩)) (t_fa96_0 g) _ rfl rfl) rfl ?_)
       | ((with_reducible refine gate_d (N := 19) rfl ?_); refine ag_fix (.slice (some ⟨a, 0, none⟩) L.length L.length) (ex_get t_sT94 g 0 (.slice (some ⟨a, 0, none⟩) L.length L.length) #[.slice (some ⟨a, 0, none⟩) L.length L.length] TB.out.tab rfl _ rfl rfl) rfl ?_)
       | ((with_reducible refine gate_d (N := 21) rfl ?_); refine ag_fix (.pointer (some ⟨a, at_, none⟩)) (ex_satA a _ _ (at_ : Int) at_ rfl HAL.out t_us94 t_sT99 _ _ rfl rfl rfl) rfl ?_)
       | ((with_reducible refine gate_d (N := 22) rfl ?_); refine ag_fix (.pointer (some ⟨b, 0, none⟩)) (ex_get t_sT99 a at_ (.pointer (some ⟨b, 0, none⟩)) ps TB.out.row HPS.out _ rfl rfl) rfl ?_))
      (try simp only [Act.put, sI, sZ, sS])
      have WR64 := i64_w
      refine sq_region (fun w'_ => Blk w'_ g 96 #[.slice (some ⟨a, 0, none⟩) L.length L.length] ∧ Blk w'_ a 99 ps ∧ Blk w'_ b 102 (entC q' x') ∧ Blk w'_ b2 102 (entC q2 x2)) [] [(0, 2), (1, 2), (2, 2), (3, 2), (4, 2), (5, 2), (6, 1), (7, 2), (8, 2), (9, 1), (10, 2), (11, 2), (12, 2), (13, 1), (14, 2), (15, 2), (16, 2), (17, 1), (18, 2), (19, 2), (20, 1), (21, 2), (22, 2), (23, 2), (24, 1), (25, 2), (26, 2)] (by kernel_rfl) (by kernel_rfl) (by kernel_rfl) rfl ?_
      intro w3 hb_
      have HL3 := hid (HL.out.trans (hb_.mono HL.out.size))
      have TB3 := hid (TB.out.below hb_)
      have BKq3 := hid (BKq.out.below hb_ BKq.out.lt)
      have SO3 := hid (SO.out.below hb_)
      have BKb3 := hid (BKb.out.below hb_ BKb.out.lt)
      have BKc3 := hid (BKc.out.below hb_ BKc.out.lt)
      clear hb_ HL TB BKq SO HCE BKb BKc
      refine sq_pure (.int .i64 (bi : Int)) rfl (fun w'_ => by go_simp) rfl rfl ?_
      intro ts_ ht_; simp only [sI, sZ, sS] at ht_; subst ht_
      refine sq_pure (.bool false) rfl (fun w'_ => by go_simp; try rw [cn]) rfl rfl ?_
      intro ts_ ht_; simp only [sI, sZ, sS] at ht_; subst ht_
      refine sq_pure (.bool false) rfl (fun w'_ => by go_simp) rfl rfl ?_
      intro ts_ ht_; simp only [sI, sZ, sS] at ht_; subst ht_
      refine sq_pure (.pointer (some ⟨g, 0, none⟩)) rfl (fun w'_ => by go_simp) rfl rfl ?_
      intro ts_ ht_; simp only [sI, sZ, sS] at ht_; subst ht_
      refine sq_pure (.pointer (some ⟨g, 0, none⟩)) rfl (fun w'_ => by go_simp) rfl rfl ?_
      intro ts_ ht_; simp only [sI, sZ, sS] at ht_; subst ht_
      refine sq_pure (.pointer (some ⟨g, 0, none⟩)) rfl (fun w'_ => ex_field 96 0 (.pointer (some ⟨g, 0, none⟩)) (.pointer (some ⟨g, 0, none⟩)) (t_fa96_0 g) _ rfl rfl) rfl rfl ?_
      intro ts_ ht_; simp only [sI, sZ, sS] at ht_; subst ht_
      refine sq_take (.slice (some ⟨a, 0, none⟩) L.length L.length) ⟨TB3.out.tab, TB3.out.row, BKb3.out, BKc3.out⟩ rfl (fun w'_ hS_ => ex_get t_sT94 g 0 (.slice (some ⟨a, 0, none⟩) L.length L.length) #[.slice (some ⟨a, 0, none⟩) L.length L.length] hS_.1 rfl _ rfl rfl) rfl rfl ?_
      intro ts_ ht_; simp only [sI, sZ, sS] at ht_; subst ht_
      refine sq_pure (.int .i64 (at_ : Int)) rfl (fun w'_ => by go_simp) rfl rfl ?_
      intro ts_ ht_; simp only [sI, sZ, sS] at ht_; subst ht_
      refine sq_pure (.pointer (some ⟨a, at_, none⟩)) rfl (fun w'_ => ex_satA a _ _ (at_ : Int) at_ rfl HAL.out t_us94 t_sT99 _ _ rfl rfl rfl) rfl rfl ?_
      intro ts_ ht_; simp only [sI, sZ, sS] at ht_; subst ht_
      refine sq_take (.pointer (some ⟨b, 0, none⟩)) ⟨TB3.out.tab, TB3.out.row, BKb3.out, BKc3.out⟩ rfl (fun w'_ hS_ => ex_get t_sT99 a at_ (.pointer (some ⟨b, 0, none⟩)) ps hS_.2.1 HPS.out _ rfl rfl) rfl rfl ?_
      intro ts_ ht_; simp only [sI, sZ, sS] at ht_; subst ht_
      refine sq_pure (.pointer (some ⟨b, 0, none⟩)) rfl (fun w'_ => by go_simp) rfl rfl ?_
      intro ts_ ht_; simp only [sI, sZ, sS] at ht_; subst ht_
      refine sq_pure (.pointer (some ⟨b, 0, none⟩)) rfl (fun w'_ => ex_field 102 0 (.pointer (some ⟨b, 0, none⟩)) (.pointer (some ⟨b, 0, none⟩)) (t_fa102_0 b) _ rfl rfl) rfl rfl ?_
      intro ts_ ht_; simp only [sI, sZ, sS] at ht_; subst ht_
      refine sq_pure (.pointer (some ⟨b, 67, none⟩)) rfl (fun w'_ => ex_field 98 1 (.pointer (some ⟨b, 0, none⟩)) (.pointer (some ⟨b, 67, none⟩)) (t_fa98_1 b) _ rfl rfl) rfl rfl ?_
      intro ts_ ht_; simp only [sI, sZ, sS] at ht_; subst ht_
      refine sq_take (.int .i64 q'.2.2.2.2) ⟨TB3.out.tab, TB3.out.row, BKb3.out, BKc3.out⟩ rfl (fun w'_ hS_ => ex_get t_sT3 b 67 (.int .i64 q'.2.2.2.2) (entC q' x') (hS_.2.2.1) (ent_depth HQ'.out) _ rfl rfl) rfl rfl ?_
      intro ts_ ht_; simp only [sI, sZ, sS] at ht_; subst ht_
      refine sq_pure (.pointer (some ⟨g, 0, none⟩)) rfl (fun w'_ => by go_simp) rfl rfl ?_
      intro ts_ ht_; simp only [sI, sZ, sS] at ht_; subst ht_
      refine sq_pure (.pointer (some ⟨g, 0, none⟩)) rfl (fun w'_ => by go_simp) rfl rfl ?_
      intro ts_ ht_; simp only [sI, sZ, sS] at ht_; subst ht_
      refine sq_pure (.pointer (some ⟨g, 0, none⟩)) rfl (fun w'_ => ex_field 96 0 (.pointer (some ⟨g, 0, none⟩)) (.pointer (some ⟨g, 0, none⟩)) (t_fa96_0 g) _ rfl rfl) rfl rfl ?_
      intro ts_ ht_; simp only [sI, sZ, sS] at ht_; subst ht_
      refine sq_take (.slice (some ⟨a, 0, none⟩) L.length L.length) ⟨TB3.out.tab, TB3.out.row, BKb3.out, BKc3.out⟩ rfl (fun w'_ hS_ => ex_get t_sT94 g 0 (.slice (some ⟨a, 0, none⟩) L.length L.length) #[.slice (some ⟨a, 0, none⟩) L.length L.length] hS_.1 rfl _ rfl rfl) rfl rfl ?_
      intro ts_ ht_; simp only [sI, sZ, sS] at ht_; subst ht_
      refine sq_pure (.int .i64 (bi : Int)) rfl (fun w'_ => by go_simp) rfl rfl ?_
      intro ts_ ht_; simp only [sI, sZ, sS] at ht_; subst ht_
      refine sq_pure (.pointer (some ⟨a, bi, none⟩)) rfl (fun w'_ => ex_satA a _ _ (bi : Int) bi rfl HBL.out t_us94 t_sT99 _ _ rfl rfl rfl) rfl rfl ?_
      intro ts_ ht_; simp only [sI, sZ, sS] at ht_; subst ht_
      refine sq_take (.pointer (some ⟨b2, 0, none⟩)) ⟨TB3.out.tab, TB3.out.row, BKb3.out, BKc3.out⟩ rfl (fun w'_ hS_ => ex_get t_sT99 a bi (.pointer (some ⟨b2, 0, none⟩)) ps hS_.2.1 HPS2.out _ rfl rfl) rfl rfl ?_
      intro ts_ ht_; simp only [sI, sZ, sS] at ht_; subst ht_
      refine sq_pure (.pointer (some ⟨b2, 0, none⟩)) rfl (fun w'_ => by go_simp) rfl rfl ?_
      intro ts_ ht_; simp only [sI, sZ, sS] at ht_; subst ht_
      refine sq_pure (.pointer (some ⟨b2, 0, none⟩)) rfl (fun w'_ => ex_field 102 0 (.pointer (some ⟨b2, 0, none⟩)) (.pointer (some ⟨b2, 0, none⟩)) (t_fa102_0 b2) _ rfl rfl) rfl rfl ?_
      intro ts_ ht_; simp only [sI, sZ, sS] at ht_; subst ht_
      refine sq_pure (.pointer (some ⟨b2, 67, none⟩)) rfl (fun w'_ => ex_field 98 1 (.pointer (some ⟨b2, 0, none⟩)) (.pointer (some ⟨b2, 67, none⟩)) (t_fa98_1 b2) _ rfl rfl) rfl rfl ?_
      intro ts_ ht_; simp only [sI, sZ, sS] at ht_; subst ht_
      refine sq_take (.int .i64 q2.2.2.2.2) ⟨TB3.out.tab, TB3.out.row, BKb3.out, BKc3.out⟩ rfl (fun w'_ hS_ => ex_get t_sT3 b2 67 (.int .i64 q2.2.2.2.2) (entC q2 x2) (hS_.2.2.2) (ent_depth HQ2.out) _ rfl rfl) rfl rfl ?_
      intro ts_ ht_; simp only [sI, sZ, sS] at ht_; subst ht_
      refine sq_pure (.bool false) rfl (fun w'_ => by go_simp; try rw [ce]) rfl rfl ?_
      intro ts_ ht_; simp only [sI, sZ, sS] at ht_; subst ht_
      refine sq_pure (.bool false) rfl (fun w'_ => by go_simp) rfl rfl ?_
      intro ts_ ht_; simp only [sI, sZ, sS] at ht_; subst ht_
      refine sq_end ?_
      clear WR64
      go_wp2_with fail
      go_roundg K1
      case measure => omega
      case rel => exact ⟨(bi : Int), _, j + 1, some bi, rfl, rfl, hid (by have := HJ.out; have := HJM.out; have := HLn.out; rw [k64 (by omega) (by omega)]; omega), hid (by have := HK2.out; omega), hid (by have := HJL.out; omega), hid ⟨rfl, HBL.out, HNB.out⟩, hid (fun _ => by simp), hid ((room_on (best := some bi) (b' := some bi) HJL.out HAT.out HNN.out (if_neg (show ¬ depZ L at_ < depZ L bi by rw [HD1.out, HD2.out]; exact Int.not_lt.2 HE.out))).symm.trans HRG.out), SO3, BKq3, TB3, HL3⟩
  ·
   have cb : decide (x12 < (l.length : Int)) = false := decide_eq_false c
   have HC := hid c
   clear c
   have HZ : Hid (x5 = ((roomZ L q : Nat) : Int)) := hid (by
    have h_ := HRG.out
    rw [List.drop_eq_nil_of_le (by have := HJ.out; have := HC.out; omega), show roomG L best [] = best from rfl] at h_
    have h2_ := HBN.out (by have := HJ.out; have := HC.out; have := HLP.out; omega)
    unfold roomZ; rw [HLR.out, ← h_]
    cases best with
    | none => exact absurd rfl h2_
    | some b_ => exact HBI.out.1)
   go_wp2_with fail
   go_ret
   exact ⟨by rw [← HZ.out]; rfl, HL.out⟩
end Go.Proofs.Ytpjocgebnodnoaa
