/- Tables: the reference's putting. -/
import Derived.Test.YtpjocgebnodnoaaVc
namespace Go.Proofs.Ytpjocgebnodnoaa
open Go.RowKit
set_option linter.unusedVariables false
set_option linter.unusedSimpArgs false
set_option maxRecDepth 100000
theorem room_skip {L : Slots} : ∀ (a b : List Nat) (best : Option Nat), (∀ i ∈ a, nt L i none ≠ none) → ∃ best', roomG L best (a ++ b) = roomG L best' b
  | [], b, best, _ => ⟨best, rfl⟩
  | i :: a, b, best, h => by
    obtain ⟨b', hb⟩ := room_skip a b (match best with | none => some i | some b => if depZ L i < depZ L b then some i else some b) (fun j hj => h j (by simp [hj]))
    refine ⟨b', ?_⟩
    rw [List.cons_append]
    conv => lhs; unfold roomG
    rw [if_neg (h i (by simp))]
    exact hb
theorem room_first {L : Slots} {l : List Nat} {j at_ : Nat} (hj : j < l.length) (ha : nt l j 0 = at_) (hn : nt L at_ none = none) (h : ∀ i ∈ l.take j, nt L i none ≠ none) : roomG L none l = some at_ := by
  obtain ⟨b, hb⟩ := room_skip (L := L) (l.take j) (l.drop j) none h
  rw [List.take_append_drop] at hb
  rw [hb]; exact room_here hj ha hn
theorem full_step {L : Slots} {l : List Nat} {j at_ : Nat} (hj : j < l.length) (ha : nt l j 0 = at_) (hn : nt L at_ none ≠ none) (h : ∀ i ∈ l.take j, nt L i none ≠ none) : ∀ i ∈ l.take (j + 1), nt L i none ≠ none := by
  intro i hi
  rw [List.take_add_one, List.getElem?_eq_getElem hj, List.mem_append] at hi
  rcases hi with hi | hi
  · exact h i hi
  · have e : nt l j 0 = l[j] := by unfold nt; simp [List.getD, List.getElem?_eq_getElem hj]
    simp at hi; rw [hi, ← e, ha]; exact hn
/-- where Put puts. -/
def placeZ (L : Slots) (q : Key) : Nat := (findZ_ L q).getD (roomZ L q)
def PutI (L : Slots) (q : Key) (l : List Nat) (j : Nat) (x : Int) : Prop := (∃ p : Nat, x = (p : Int) ∧ p < L.length ∧ placeZ L q = p) ∨ (x = -1 ∧ findZ_ L q = none ∧ ∀ i ∈ l.take j, nt L i none ≠ none)
theorem find_in {L : Slots} {q : Key} {i : Nat} (h0 : 0 < L.length) (h : findZ_ L q = some i) : i < L.length := rowZ_lt h0 q i (List.mem_of_find?_eq_some h)
theorem puti_0 {L : Slots} {q : Key} {l : List Nat} (h0 : 0 < L.length) : PutI L q l 0 (fndV L q) := by
  unfold PutI fndV placeZ
  cases h : findZ_ L q with
  | none => exact .inr ⟨rfl, rfl, fun i hi => by simp at hi⟩
  | some i => exact .inl ⟨i, rfl, find_in h0 h, rfl⟩
def RPut (w : World) (L : Slots) (g a : Nat) (q : Key) (y : Int) (w' : World) : Prop := RBx w' (putZ L q y) g a ∧ Fr (fun k => k = a) w w'
theorem rput_is {w w2 w3 : World} {L : Slots} {g a p : Nat} {q : Key} {y : Int} (h : RBx w2 L g a) (hb : Below w.heap.size w w2) (hq : q.1.length = 64) (hp : p < L.length) (he : placeZ L q = p) (ho : Off a w2 w3) (hB : Blk w3 a 62 (rcells (L.set p (some (q, y))))) : RPut w L g a q y w3 := by
  refine ⟨?_, ho.os.trans hb.os, ho.tape.trans hb.tape, ho.output.trans hb.output, by rw [ho.size]; exact hb.size, fun k hk hn => (ho.block k (fun e => hn e)).trans (hb.block k hk)⟩
  have e : putZ L q y = L.set p (some (q, y)) := by unfold putZ; rw [show (findZ_ L q).getD (roomZ L q) = p from he]
  rw [e]; exact h.put hp hq ho hB
set_option maxHeartbeats 40000000 in
theorem rput_calls {w : World} {L : Slots} {g a : Nat} (h : RBx w L g a) (q : Key) (hq : GoodR q) (y : Int) :
    Calls Try.prog 31 #[.pointer (some ⟨g, 0, none⟩), .agg (pv q.1 q.2.1 q.2.2.1 q.2.2.2.1), .int .i64 q.2.2.2.2, .int .i64 y] w fun e w' => ∃ v, e = .returned v ∧ RPut w L g a q y w' := by
 have HL := hid (Below.refl w.heap.size w)
 have TB := hid h
 have HQ := hid hq.1.1
 have HGK := hid hq
 have HP := hid h.pos
 have HB := hid h.bd
 obtain ⟨l, hl_⟩ : ∃ l, rowZ L.length q = l := ⟨_, rfl⟩
 have HLR := hid hl_
 have HLn : Hid (l.length ≤ 4) := hid (by rw [← hl_, rowZ_len]; omega)
 have HLP : Hid (0 < l.length) := hid (by rw [← hl_, rowZ_len]; have := h.pos; omega)
 have HIN : Hid (∀ j, j < l.length → nt l j 0 < L.length) := hid (fun j hj => rowZ_lt h.pos q _ (by rw [hl_]; exact nt_in hj))
 have HP0 : Hid (PutI L q l 0 (fndV L q)) := hid (puti_0 h.pos)
 clear h hq hl_
 go_enter Try.func31, Try.ntmps31
 have k1 := True.intro
 have k2 := True.intro
 have k3 := True.intro
 go_wp2_with (first
   | ((with_reducible refine gate_d (N := 5) rfl ?_); clear k1; obtain ⟨g4, hg4⟩ : ∃ g_, w.heap.size = g_ := ⟨_, rfl⟩; refine ag_box (pv q.1 q.2.1 q.2.2.1 q.2.2.2.1) g4 hg4 rfl _ rfl rfl ?_; intro w1 hb_ hB_ hs_; have HL1 := hid (HL.out.trans (hb_.mono (by rw [← hg4]; exact HL.out.size))); have TB1 := hid (TB.out.below (by rw [hg4]; exact hb_)); have BK1 := hid hB_; clear hb_ hB_ hs_ hg4 HL TB)
   | ((with_reducible refine gate_d (N := 13) rfl ?_); refine ag_fix (.agg (pv q.1 q.2.1 q.2.2.1 q.2.2.2.1)) (ex_load posT g4 0 (pv q.1 q.2.1 q.2.2.1 q.2.2.2.1) (pv q.1 q.2.1 q.2.2.1 q.2.2.2.1) BK1.out (pos_le HQ.out) (pos_all HQ.out) _ rfl rfl) rfl ?_)
   | (go_at_call 32; clear k2; refine (rfind_calls TB1.out q HGK.out).mono ?_; rintro e_ w2 ⟨rfl, hb_⟩; have HL2 := hid (HL1.out.trans (hb_.mono HL1.out.size)); have TB2 := hid (TB1.out.below hb_); have BK2 := hid (BK1.out.below hb_ BK1.out.lt); clear hb_ HL1 TB1 BK1)
   | ((with_reducible refine gate_d (N := 17) rfl ?_); refine ag_fix (.agg (pv q.1 q.2.1 q.2.2.1 q.2.2.2.1)) (ex_load posT g4 0 (pv q.1 q.2.1 q.2.2.1 q.2.2.2.1) (pv q.1 q.2.1 q.2.2.1 q.2.2.2.1) BK2.out (pos_le HQ.out) (pos_all HQ.out) _ rfl rfl) rfl ?_)
   | (go_at_call 58; clear k3; refine (rrow_calls TB2.out q HGK.out).mono ?_; rintro e_ w3 ⟨u, rfl, so_, hb_⟩; have HL3 := hid (HL2.out.trans (hb_.mono HL2.out.size)); have TB3 := hid (TB2.out.below hb_); have BK3 := hid (BK2.out.below hb_ BK2.out.lt); have SO3 : Hid (Own w3 0 3 u ((l.map Int.ofNat).map (Value.int .i64))) := hid (by have h_ := so_; unfold rowV at h_; rw [HLR.out] at h_; exact h_.mono (Nat.zero_le _)); clear so_ hb_ HL2 TB2 BK2))
 (try simp only [Act.put, sI, sZ, sS])
 obtain ⟨f0, hf0_⟩ : ∃ f0, fndV L q = f0 := ⟨_, rfl⟩
 rw [hf0_] at HP0 ⊢
 clear hf0_
 go_loopg [8, 10] 6 (fun kq v8 v10 w' => ∃ (x8 x10 : Int) (j : Nat), v8 = .int .i64 x8 ∧ v10 = .int .i64 x10 ∧ Hid (x10 = (j : Int)) ∧ Hid (kq + j = 6) ∧ Hid (j ≤ l.length) ∧ Hid (PutI L q l j x8) ∧ Hid (Own w' 0 3 u ((l.map Int.ofNat).map (Value.int .i64))) ∧ Hid (Blk w' g4 46 (pv q.1 q.2.1 q.2.2.1 q.2.2.2.1)) ∧ Hid (RBx w' L g a) ∧ Hid (Below w.heap.size w w'))
 case atStart => exact ⟨f0, 0, 0, rfl, (by first | rfl | (simp; done)), hid rfl, hid (by omega), hid (by omega), HP0, SO3, BK3, TB3, HL3⟩
 case round =>
  clear TB3 HL3 SO3 BK3 HP0
  obtain ⟨x8, x10, j, rfl, rfl, HJ, HK2, HJM, HPI, SO, BK, TB, HL⟩ := hrel
  obtain ⟨K1, rfl⟩ : ∃ K_, gk = K_ + 1 := ⟨gk - 1, by have := HK2.out; have := HJM.out; have := HLn.out; omega⟩
  rcases HPI.out with ⟨p, hx_, hp1_, hp2_⟩ | ⟨hx_, hf_, hn_⟩
  ·
   have cn : decide (x8 < (0 : Int)) = false := decide_eq_false (by omega)
   have HX := hid hx_
   have HPL := hid hp1_
   have HPE := hid hp2_
   clear hx_ hp1_ hp2_ HPI
   go_wp2_with fail
   (try simp only [Act.put, sI, sZ, sS])
   have WR64 := i64_w
   refine sq_region (fun w'_ => Blk w'_ g 59 #[.slice (some ⟨a, 0, none⟩) L.length L.length] ∧ Blk w'_ g4 46 (pv q.1 q.2.1 q.2.2.1 q.2.2.2.1)) [10] [(0, 2), (1, 2), (2, 2), (3, 1), (4, 2), (5, 1), (6, 2), (7, 2), (8, 2), (9, 2), (10, 0)] (by kernel_rfl) (by kernel_rfl) (by kernel_rfl) rfl ?_
   intro w5 hb_
   have HL5 := hid (HL.out.trans (hb_.mono HL.out.size))
   have TB5 := hid (TB.out.below hb_)
   have BK5 := hid (BK.out.below hb_ BK.out.lt)
   clear hb_ HL TB BK SO
   refine sq_pure (.pointer (some ⟨g, 0, none⟩)) rfl (fun w'_ => by go_simp) rfl rfl ?_
   intro ts_ ht_; simp only [sI, sZ, sS] at ht_; subst ht_
   refine sq_pure (.pointer (some ⟨g, 0, none⟩)) rfl (fun w'_ => by go_simp) rfl rfl ?_
   intro ts_ ht_; simp only [sI, sZ, sS] at ht_; subst ht_
   refine sq_pure (.pointer (some ⟨g, 0, none⟩)) rfl (fun w'_ => ex_field 59 0 (.pointer (some ⟨g, 0, none⟩)) (.pointer (some ⟨g, 0, none⟩)) (t_fa59_0 g) _ rfl rfl) rfl rfl ?_
   intro ts_ ht_; simp only [sI, sZ, sS] at ht_; subst ht_
   refine sq_take (.slice (some ⟨a, 0, none⟩) L.length L.length) ⟨TB5.out.tab, BK5.out⟩ rfl (fun w'_ hS_ => ex_get t_sT57 g 0 (.slice (some ⟨a, 0, none⟩) L.length L.length) #[.slice (some ⟨a, 0, none⟩) L.length L.length] hS_.1 rfl _ rfl rfl) rfl rfl ?_
   intro ts_ ht_; simp only [sI, sZ, sS] at ht_; subst ht_
   refine sq_pure (.int .i64 x8) rfl (fun w'_ => by go_simp) rfl rfl ?_
   intro ts_ ht_; simp only [sI, sZ, sS] at ht_; subst ht_
   refine sq_take (.agg (pv q.1 q.2.1 q.2.2.1 q.2.2.2.1)) ⟨TB5.out.tab, BK5.out⟩ rfl (fun w'_ hS_ => ex_load posT g4 0 (pv q.1 q.2.1 q.2.2.1 q.2.2.2.1) (pv q.1 q.2.1 q.2.2.1 q.2.2.2.1) hS_.2 (pos_le HQ.out) (pos_all HQ.out) _ rfl rfl) rfl rfl ?_
   intro ts_ ht_; simp only [sI, sZ, sS] at ht_; subst ht_
   refine sq_pure (.int .i64 q.2.2.2.2) rfl (fun w'_ => by go_simp) rfl rfl ?_
   intro ts_ ht_; simp only [sI, sZ, sS] at ht_; subst ht_
   refine sq_pure (.int .i64 y) rfl (fun w'_ => by go_simp) rfl rfl ?_
   intro ts_ ht_; simp only [sI, sZ, sS] at ht_; subst ht_
   refine sq_pure (.agg (rentC q y true)) rfl (fun w'_ => ex_build _ _ rfl (fun w_ => by simp only [List.map_toArray, List.map_cons, List.map_nil]; exact build_rent HQ.out y w_)) rfl rfl ?_
   intro ts_ ht_; simp only [sI, sZ, sS] at ht_; subst ht_
   refine sq_pure (.pointer (some ⟨a, p * 70, none⟩)) rfl (fun w'_ => ex_satR a _ _ _ p HX.out HPL.out _ _ rfl rfl rfl) rfl rfl ?_
   intro ts_ ht_; simp only [sI, sZ, sS] at ht_; subst ht_
   refine sq_act rfl (fun Q'_ hQ_ => ?_)
   refine ag_store t_aT62 a (p * 70) (rcells L) (rentC q y true) (rcells (L.set p (some (q, y)))) TB5.out.row (rentC_size _ _ _) (rc_le HPL.out) (rentC_one _ _ _) (by have h_ := rc_put HPL.out (some (q, y)); unfold rent at h_; exact h_) rfl _ _ rfl rfl rfl ?_
   intro w7 ho_ hB_
   have PP := hid (rput_is TB5.out HL5.out HQ.out HPL.out HPE.out ho_ hB_)
   clear ho_ hB_
   refine act_end ?_
   refine hQ_ _ _ (fun h_ => absurd h_ (by decide)) ?_
   clear hQ_ Q'_
   simp only [Act.put]
   refine sq_end ?_
   clear WR64
   go_wp2_with fail
   go_end0
   exact ⟨_, rfl, PP.out⟩
  ·
   have cn : decide (x8 < (0 : Int)) = true := decide_eq_true (by omega)
   have HX := hid hx_
   have HF := hid hf_
   have HN := hid hn_
   clear hx_ hf_ hn_ HPI
   by_cases c : x10 < (l.length : Int)
   ·
    have cb : decide (x10 < (l.length : Int)) = true := decide_eq_true c
    have HC := hid c
    clear c
    have HJ0 : Hid (0 ≤ x10) := hid (by have := HJ.out; omega)
    have HJL : Hid (j < l.length) := hid (by have := HJ.out; have := HC.out; omega)
    obtain ⟨at_, hat_⟩ : ∃ z, nt l j 0 = z := ⟨_, rfl⟩
    have HAT := hid hat_
    have HAL : Hid (at_ < L.length) := hid (by rw [← hat_]; exact HIN.out j HJL.out)
    have HNT : Hid (nt (l.map Int.ofNat) x10.toNat 0 = (at_ : Int)) := hid (by rw [← hat_, show x10.toNat = j by have := HJ.out; omega]; exact nt_map HJL.out)
    clear hat_
    obtain ⟨ad, c0_, hv_, hc_⟩ := Sl.get (l := l.map Int.ofNat) (f := Value.int .i64) SO.out.sl 0 (i := x10) HJ0.out (by rw [List.length_map]; exact HC.out)
    rw [HNT.out] at hc_
    rw [List.length_map] at hv_
    have HV := hid hv_
    have HCE := hid hc_
    clear hv_ hc_
    have HIS : Hid (∀ b, (nt L at_ none).isSome = b → (rcells L)[at_ * 70 + 69]? = some (.bool b)) := hid (fun b hb => by rw [rc_is HAL.out, hb])
    cases hs_ : (nt L at_ none).isSome with
    | false =>
     have HI2 := hid (HIS.out _ hs_)
     have HRM : Hid (placeZ L q = at_) := hid (by unfold placeZ roomZ; rw [HF.out, HLR.out, room_first HJL.out HAT.out (by simpa using hs_) HN.out]; rfl)
     clear hs_ HIS
     go_wp2_with (first
       | ((with_reducible refine gate_d (N := 25) rfl ?_); obtain ⟨A_, c_, hv_⟩ := SO.out.sl.shape; rw [List.length_map, List.length_map] at hv_; refine ag_fix (.int .i64 (l.length : Int)) (ex_len t_us27 _ _ _ _ hv_ _ rfl rfl) rfl ?_; clear hv_))
     (try simp only [Act.put, sI, sZ, sS])
     have WR64 := i64_w
     refine sq_region (fun w'_ => Blk w'_ g 59 #[.slice (some ⟨a, 0, none⟩) L.length L.length] ∧ w'_.cell? (ad.add x10.toNat) = some (.int .i64 (at_ : Int)) ∧ Blk w'_ a 62 (rcells L)) [] [(0, 2), (1, 2), (2, 2), (3, 1), (4, 2), (5, 2), (6, 2), (7, 1), (8, 2), (9, 2), (10, 1), (11, 2)] (by kernel_rfl) (by kernel_rfl) (by kernel_rfl) rfl ?_
     intro w5 hb_
     have HL5 := hid (HL.out.trans (hb_.mono HL.out.size))
     have TB5 := hid (TB.out.below hb_)
     have BK5 := hid (BK.out.below hb_ BK.out.lt)
     have SO5 := hid (SO.out.below hb_)
     have HC5 : Hid (w5.cell? (ad.add x10.toNat) = some (.int .i64 (at_ : Int))) := hid ((hb_.cell (World.block_lt_of_cell? _ _ HCE.out)).trans HCE.out)
     clear hb_ HL TB BK SO HCE
     refine sq_pure (.pointer (some ⟨g, 0, none⟩)) rfl (fun w'_ => by go_simp) rfl rfl ?_
     intro ts_ ht_; simp only [sI, sZ, sS] at ht_; subst ht_
     refine sq_pure (.pointer (some ⟨g, 0, none⟩)) rfl (fun w'_ => by go_simp) rfl rfl ?_
     intro ts_ ht_; simp only [sI, sZ, sS] at ht_; subst ht_
     refine sq_pure (.pointer (some ⟨g, 0, none⟩)) rfl (fun w'_ => ex_field 59 0 (.pointer (some ⟨g, 0, none⟩)) (.pointer (some ⟨g, 0, none⟩)) (t_fa59_0 g) _ rfl rfl) rfl rfl ?_
     intro ts_ ht_; simp only [sI, sZ, sS] at ht_; subst ht_
     refine sq_take (.slice (some ⟨a, 0, none⟩) L.length L.length) ⟨TB5.out.tab, HC5.out, TB5.out.row⟩ rfl (fun w'_ hS_ => ex_get t_sT57 g 0 (.slice (some ⟨a, 0, none⟩) L.length L.length) #[.slice (some ⟨a, 0, none⟩) L.length L.length] hS_.1 rfl _ rfl rfl) rfl rfl ?_
     intro ts_ ht_; simp only [sI, sZ, sS] at ht_; subst ht_
     refine sq_pure (u) rfl (fun w'_ => by go_simp) rfl rfl ?_
     intro ts_ ht_; simp only [sI, sZ, sS] at ht_; subst ht_
     refine sq_pure (.int .i64 x10) rfl (fun w'_ => by go_simp) rfl rfl ?_
     intro ts_ ht_; simp only [sI, sZ, sS] at ht_; subst ht_
     refine sq_pure (.pointer (some (ad.add x10.toNat))) rfl (fun w'_ => ex_sat _ _ x10 _ _ HV.out HJ0.out HC.out t_us27 t_sT3 _ _ rfl rfl rfl) rfl rfl ?_
     intro ts_ ht_; simp only [sI, sZ, sS] at ht_; subst ht_
     refine sq_take (.int .i64 (at_ : Int)) ⟨TB5.out.tab, HC5.out, TB5.out.row⟩ rfl (fun w'_ hS_ => ex_scell t_sT3 _ _ hS_.2.1 _ rfl rfl) rfl rfl ?_
     intro ts_ ht_; simp only [sI, sZ, sS] at ht_; subst ht_
     refine sq_pure (.pointer (some ⟨a, at_ * 70, none⟩)) rfl (fun w'_ => ex_satR a _ _ (at_ : Int) at_ rfl HAL.out _ _ rfl rfl rfl) rfl rfl ?_
     intro ts_ ht_; simp only [sI, sZ, sS] at ht_; subst ht_
     refine sq_pure (.pointer (some ⟨a, at_ * 70 + 69, none⟩)) rfl (fun w'_ => ex_field 62 3 (.pointer (some ⟨a, at_ * 70, none⟩)) (.pointer (some ⟨a, at_ * 70 + 69, none⟩)) (t_fa62_3 a (at_ * 70)) _ rfl rfl) rfl rfl ?_
     intro ts_ ht_; simp only [sI, sZ, sS] at ht_; subst ht_
     refine sq_take (.bool false) ⟨TB5.out.tab, HC5.out, TB5.out.row⟩ rfl (fun w'_ hS_ => ex_get t_sT4 a (at_ * 70 + 69) (.bool false) (rcells L) hS_.2.2 HI2.out _ rfl rfl) rfl rfl ?_
     intro ts_ ht_; simp only [sI, sZ, sS] at ht_; subst ht_
     refine sq_pure (.bool true) rfl (fun w'_ => by go_simp) rfl rfl ?_
     intro ts_ ht_; simp only [sI, sZ, sS] at ht_; subst ht_
     refine sq_end ?_
     clear WR64
     go_wp2_with (first
       | ((with_reducible refine gate_d (N := 44) rfl ?_); refine ag_fix (.pointer (some (ad.add x10.toNat))) (ex_sat _ _ x10 _ _ HV.out HJ0.out HC.out t_us27 t_sT3 _ _ rfl rfl rfl) rfl ?_)
       | ((with_reducible refine gate_d (N := 45) rfl ?_); refine ag_fix (.int .i64 (at_ : Int)) (ex_scell t_sT3 _ _ HC5.out _ rfl rfl) rfl ?_))
     (try simp only [Act.put, sI, sZ, sS])
     go_roundg K1
     case measure => omega
     case rel => exact ⟨_, _, j + 1, rfl, rfl, hid (by have := HJ.out; have := HJM.out; have := HLn.out; rw [k64 (by omega) (by omega)]; omega), hid (by have := HK2.out; omega), hid (by have := HJL.out; omega), hid (.inl ⟨at_, rfl, HAL.out, HRM.out⟩), SO5, BK5, TB5, HL5⟩
    | true =>
     have HI2 := hid (HIS.out _ hs_)
     have HNN : Hid (nt L at_ none ≠ none) := hid (by intro h_; rw [h_] at hs_; cases hs_)
     clear hs_ HIS
     go_wp2_with (first
       | ((with_reducible refine gate_d (N := 25) rfl ?_); obtain ⟨A_, c_, hv_⟩ := SO.out.sl.shape; rw [List.length_map, List.length_map] at hv_; refine ag_fix (.int .i64 (l.length : Int)) (ex_len t_us27 _ _ _ _ hv_ _ rfl rfl) rfl ?_; clear hv_))
     (try simp only [Act.put, sI, sZ, sS])
     have WR64 := i64_w
     refine sq_region (fun w'_ => Blk w'_ g 59 #[.slice (some ⟨a, 0, none⟩) L.length L.length] ∧ w'_.cell? (ad.add x10.toNat) = some (.int .i64 (at_ : Int)) ∧ Blk w'_ a 62 (rcells L)) [] [(0, 2), (1, 2), (2, 2), (3, 1), (4, 2), (5, 2), (6, 2), (7, 1), (8, 2), (9, 2), (10, 1), (11, 2)] (by kernel_rfl) (by kernel_rfl) (by kernel_rfl) rfl ?_
     intro w5 hb_
     have HL5 := hid (HL.out.trans (hb_.mono HL.out.size))
     have TB5 := hid (TB.out.below hb_)
     have BK5 := hid (BK.out.below hb_ BK.out.lt)
     have SO5 := hid (SO.out.below hb_)
     have HC5 : Hid (w5.cell? (ad.add x10.toNat) = some (.int .i64 (at_ : Int))) := hid ((hb_.cell (World.block_lt_of_cell? _ _ HCE.out)).trans HCE.out)
     clear hb_ HL TB BK SO HCE
     refine sq_pure (.pointer (some ⟨g, 0, none⟩)) rfl (fun w'_ => by go_simp) rfl rfl ?_
     intro ts_ ht_; simp only [sI, sZ, sS] at ht_; subst ht_
     refine sq_pure (.pointer (some ⟨g, 0, none⟩)) rfl (fun w'_ => by go_simp) rfl rfl ?_
     intro ts_ ht_; simp only [sI, sZ, sS] at ht_; subst ht_
     refine sq_pure (.pointer (some ⟨g, 0, none⟩)) rfl (fun w'_ => ex_field 59 0 (.pointer (some ⟨g, 0, none⟩)) (.pointer (some ⟨g, 0, none⟩)) (t_fa59_0 g) _ rfl rfl) rfl rfl ?_
     intro ts_ ht_; simp only [sI, sZ, sS] at ht_; subst ht_
     refine sq_take (.slice (some ⟨a, 0, none⟩) L.length L.length) ⟨TB5.out.tab, HC5.out, TB5.out.row⟩ rfl (fun w'_ hS_ => ex_get t_sT57 g 0 (.slice (some ⟨a, 0, none⟩) L.length L.length) #[.slice (some ⟨a, 0, none⟩) L.length L.length] hS_.1 rfl _ rfl rfl) rfl rfl ?_
     intro ts_ ht_; simp only [sI, sZ, sS] at ht_; subst ht_
     refine sq_pure (u) rfl (fun w'_ => by go_simp) rfl rfl ?_
     intro ts_ ht_; simp only [sI, sZ, sS] at ht_; subst ht_
     refine sq_pure (.int .i64 x10) rfl (fun w'_ => by go_simp) rfl rfl ?_
     intro ts_ ht_; simp only [sI, sZ, sS] at ht_; subst ht_
     refine sq_pure (.pointer (some (ad.add x10.toNat))) rfl (fun w'_ => ex_sat _ _ x10 _ _ HV.out HJ0.out HC.out t_us27 t_sT3 _ _ rfl rfl rfl) rfl rfl ?_
     intro ts_ ht_; simp only [sI, sZ, sS] at ht_; subst ht_
     refine sq_take (.int .i64 (at_ : Int)) ⟨TB5.out.tab, HC5.out, TB5.out.row⟩ rfl (fun w'_ hS_ => ex_scell t_sT3 _ _ hS_.2.1 _ rfl rfl) rfl rfl ?_
     intro ts_ ht_; simp only [sI, sZ, sS] at ht_; subst ht_
     refine sq_pure (.pointer (some ⟨a, at_ * 70, none⟩)) rfl (fun w'_ => ex_satR a _ _ (at_ : Int) at_ rfl HAL.out _ _ rfl rfl rfl) rfl rfl ?_
     intro ts_ ht_; simp only [sI, sZ, sS] at ht_; subst ht_
     refine sq_pure (.pointer (some ⟨a, at_ * 70 + 69, none⟩)) rfl (fun w'_ => ex_field 62 3 (.pointer (some ⟨a, at_ * 70, none⟩)) (.pointer (some ⟨a, at_ * 70 + 69, none⟩)) (t_fa62_3 a (at_ * 70)) _ rfl rfl) rfl rfl ?_
     intro ts_ ht_; simp only [sI, sZ, sS] at ht_; subst ht_
     refine sq_take (.bool true) ⟨TB5.out.tab, HC5.out, TB5.out.row⟩ rfl (fun w'_ hS_ => ex_get t_sT4 a (at_ * 70 + 69) (.bool true) (rcells L) hS_.2.2 HI2.out _ rfl rfl) rfl rfl ?_
     intro ts_ ht_; simp only [sI, sZ, sS] at ht_; subst ht_
     refine sq_pure (.bool false) rfl (fun w'_ => by go_simp) rfl rfl ?_
     intro ts_ ht_; simp only [sI, sZ, sS] at ht_; subst ht_
     refine sq_end ?_
     clear WR64
     go_wp2_with fail
     go_roundg K1
     case measure => omega
     case rel => exact ⟨x8, _, j + 1, rfl, rfl, hid (by have := HJ.out; have := HJM.out; have := HLn.out; rw [k64 (by omega) (by omega)]; omega), hid (by have := HK2.out; omega), hid (by have := HJL.out; omega), hid (.inr ⟨HX.out, HF.out, full_step HJL.out HAT.out HNN.out HN.out⟩), SO5, BK5, TB5, HL5⟩
   ·
    have cb : decide (x10 < (l.length : Int)) = false := decide_eq_false c
    have HFU : Hid (∀ i ∈ l, nt L i none ≠ none) := hid (by have h_ := HN.out; rw [List.take_of_length_le (by have := HJ.out; omega)] at h_; exact h_)
    clear c HN HJ HJM HK2
    obtain ⟨at0, hat0_⟩ : ∃ z, nt l 0 0 = z := ⟨_, rfl⟩
    have HAT0 := hid hat0_
    have HAL0 : Hid (at0 < L.length) := hid (by rw [← hat0_]; exact HIN.out 0 HLP.out)
    have HNT0 : Hid (nt (l.map Int.ofNat) (0 : Int).toNat 0 = (at0 : Int)) := hid (by rw [← hat0_]; exact nt_map HLP.out)
    have HR0 : Hid (roomG L (some at0) (l.drop 1) = roomG L none l) := hid (room_on (L := L) (best := none) (b' := some at0) HLP.out hat0_ (HFU.out _ (by rw [← hat0_]; exact nt_in HLP.out)) rfl).symm
    clear hat0_
    obtain ⟨ad0, c0, hv_, hc_⟩ := Sl.get (l := l.map Int.ofNat) (f := Value.int .i64) SO.out.sl 0 (i := (0 : Int)) (Int.le_refl _) (by rw [List.length_map]; have := HLP.out; omega)
    rw [HNT0.out] at hc_
    rw [List.length_map] at hv_
    have HV0 := hid hv_
    have HCE0 := hid hc_
    have H0L : Hid ((0 : Int) < (l.length : Int)) := hid (by have := HLP.out; omega)
    clear hv_ hc_
    go_wp2_with (first
      | ((with_reducible refine gate_d (N := 25) rfl ?_); obtain ⟨A_, c_, hv_⟩ := SO.out.sl.shape; rw [List.length_map, List.length_map] at hv_; refine ag_fix (.int .i64 (l.length : Int)) (ex_len t_us27 _ _ _ _ hv_ _ rfl rfl) rfl ?_; clear hv_)
      | ((with_reducible refine gate_d (N := 49) rfl ?_); refine ag_fix (.pointer (some (ad0.add (0 : Int).toNat))) (ex_sat _ _ 0 _ _ HV0.out (Int.le_refl _) H0L.out t_us27 t_sT3 _ _ rfl rfl rfl) rfl ?_)
      | ((with_reducible refine gate_d (N := 50) rfl ?_); refine ag_fix (.int .i64 (at0 : Int)) (ex_scell t_sT3 _ _ HCE0.out _ rfl rfl) rfl ?_))
    (try simp only [Act.put, sI, sZ, sS])
    go_loopg [8, 11] 6 (fun kq v8 v11 w' => ∃ (x11 : Int) (b j : Nat), v8 = .int .i64 (b : Int) ∧ v11 = .int .i64 x11 ∧ Hid (x11 = (j : Int)) ∧ Hid (kq + j = 7) ∧ Hid (j ≤ l.length) ∧ Hid (b < L.length) ∧ Hid (roomG L (some b) (l.drop j) = roomG L none l) ∧ Hid (Own w' 0 3 u ((l.map Int.ofNat).map (Value.int .i64))) ∧ Hid (Blk w' g4 46 (pv q.1 q.2.1 q.2.2.1 q.2.2.2.1)) ∧ Hid (RBx w' L g a) ∧ Hid (Below w.heap.size w w'))
    case atStart => exact ⟨1, at0, 1, rfl, (by first | rfl | (simp; done)), hid rfl, hid (by omega), hid (by have := HLP.out; omega), HAL0, HR0, SO, BK, TB, HL⟩
    case round =>
     clear TB HL SO BK HCE0 HV0 cb HR0 HAL0 HAT0 HNT0 cn
     obtain ⟨x11, b, j, rfl, rfl, HJ, HK2, HJM, HBL, HRG, SO, BK, TB, HL⟩ := hrel
     obtain ⟨K2, rfl⟩ : ∃ K_, gk = K_ + 1 := ⟨gk - 1, by have := HK2.out; have := HJM.out; have := HLn.out; omega⟩
     by_cases c : x11 < (l.length : Int)
     ·
      have cb : decide (x11 < (l.length : Int)) = true := decide_eq_true c
      have HC := hid c
      clear c
      have HJ0 : Hid (0 ≤ x11) := hid (by have := HJ.out; omega)
      have HJL : Hid (j < l.length) := hid (by have := HJ.out; have := HC.out; omega)
      obtain ⟨at_, hat_⟩ : ∃ z, nt l j 0 = z := ⟨_, rfl⟩
      have HAT := hid hat_
      have HAL : Hid (at_ < L.length) := hid (by rw [← hat_]; exact HIN.out j HJL.out)
      have HNT : Hid (nt (l.map Int.ofNat) x11.toNat 0 = (at_ : Int)) := hid (by rw [← hat_, show x11.toNat = j by have := HJ.out; omega]; exact nt_map HJL.out)
      clear hat_
      obtain ⟨ad, c0_, hv_, hc_⟩ := Sl.get (l := l.map Int.ofNat) (f := Value.int .i64) SO.out.sl 0 (i := x11) HJ0.out (by rw [List.length_map]; exact HC.out)
      rw [HNT.out] at hc_
      rw [List.length_map] at hv_
      have HV := hid hv_
      have HCE := hid hc_
      clear hv_ hc_
      have HNN : Hid (nt L at_ none ≠ none) := hid (HFU.out _ (by rw [← HAT.out]; exact nt_in HJL.out))
      obtain ⟨d1, hd1_⟩ : ∃ d, depZ L at_ = d := ⟨_, rfl⟩
      obtain ⟨d2, hd2_⟩ : ∃ d, depZ L b = d := ⟨_, rfl⟩
      have HD1 := hid hd1_
      have HD2 := hid hd2_
      have HDC1 : Hid ((rcells L)[at_ * 70 + 67]? = some (.int .i64 d1)) := hid (by rw [rc_dep HAL.out, hd1_])
      have HDC2 : Hid ((rcells L)[b * 70 + 67]? = some (.int .i64 d2)) := hid (by rw [rc_dep HBL.out, hd2_])
      clear hd1_ hd2_
      by_cases e_ : d1 < d2
      ·
       have ce : decide (d1 < d2) = true := decide_eq_true e_
       have HR2 : Hid (roomG L (some at_) (l.drop (j + 1)) = roomG L none l) := hid ((room_on (L := L) (best := some b) (b' := some at_) HJL.out HAT.out HNN.out (if_pos (show depZ L at_ < depZ L b by rw [HD1.out, HD2.out]; exact e_))).symm.trans HRG.out)
       clear e_
       go_wp2_with (first
         | ((with_reducible refine gate_d (N := 53) rfl ?_); obtain ⟨A_, c_, hv_⟩ := SO.out.sl.shape; rw [List.length_map, List.length_map] at hv_; refine ag_fix (.int .i64 (l.length : Int)) (ex_len t_us27 _ _ _ _ hv_ _ rfl rfl) rfl ?_; clear hv_))
       (try simp only [Act.put, sI, sZ, sS])
       have WR64 := i64_w
       refine sq_region (fun w'_ => Blk w'_ g 59 #[.slice (some ⟨a, 0, none⟩) L.length L.length] ∧ w'_.cell? (ad.add x11.toNat) = some (.int .i64 (at_ : Int)) ∧ Blk w'_ a 62 (rcells L)) [] [(0, 2), (1, 2), (2, 2), (3, 1), (4, 2), (5, 2), (6, 2), (7, 1), (8, 2), (9, 2), (10, 1), (11, 2), (12, 2), (13, 2), (14, 1), (15, 2), (16, 2), (17, 2), (18, 1), (19, 2)] (by kernel_rfl) (by kernel_rfl) (by kernel_rfl) rfl ?_
       intro w5 hb_
       have HL5 := hid (HL.out.trans (hb_.mono HL.out.size))
       have TB5 := hid (TB.out.below hb_)
       have BK5 := hid (BK.out.below hb_ BK.out.lt)
       have SO5 := hid (SO.out.below hb_)
       have HC5 : Hid (w5.cell? (ad.add x11.toNat) = some (.int .i64 (at_ : Int))) := hid ((hb_.cell (World.block_lt_of_cell? _ _ HCE.out)).trans HCE.out)
       clear hb_ HL TB BK SO HCE
       refine sq_pure (.pointer (some ⟨g, 0, none⟩)) rfl (fun w'_ => by go_simp) rfl rfl ?_
       intro ts_ ht_; simp only [sI, sZ, sS] at ht_; subst ht_
       refine sq_pure (.pointer (some ⟨g, 0, none⟩)) rfl (fun w'_ => by go_simp) rfl rfl ?_
       intro ts_ ht_; simp only [sI, sZ, sS] at ht_; subst ht_
       refine sq_pure (.pointer (some ⟨g, 0, none⟩)) rfl (fun w'_ => ex_field 59 0 (.pointer (some ⟨g, 0, none⟩)) (.pointer (some ⟨g, 0, none⟩)) (t_fa59_0 g) _ rfl rfl) rfl rfl ?_
       intro ts_ ht_; simp only [sI, sZ, sS] at ht_; subst ht_
       refine sq_take (.slice (some ⟨a, 0, none⟩) L.length L.length) ⟨TB5.out.tab, HC5.out, TB5.out.row⟩ rfl (fun w'_ hS_ => ex_get t_sT57 g 0 (.slice (some ⟨a, 0, none⟩) L.length L.length) #[.slice (some ⟨a, 0, none⟩) L.length L.length] hS_.1 rfl _ rfl rfl) rfl rfl ?_
       intro ts_ ht_; simp only [sI, sZ, sS] at ht_; subst ht_
       refine sq_pure (u) rfl (fun w'_ => by go_simp) rfl rfl ?_
       intro ts_ ht_; simp only [sI, sZ, sS] at ht_; subst ht_
       refine sq_pure (.int .i64 x11) rfl (fun w'_ => by go_simp) rfl rfl ?_
       intro ts_ ht_; simp only [sI, sZ, sS] at ht_; subst ht_
       refine sq_pure (.pointer (some (ad.add x11.toNat))) rfl (fun w'_ => ex_sat _ _ x11 _ _ HV.out HJ0.out HC.out t_us27 t_sT3 _ _ rfl rfl rfl) rfl rfl ?_
       intro ts_ ht_; simp only [sI, sZ, sS] at ht_; subst ht_
       refine sq_take (.int .i64 (at_ : Int)) ⟨TB5.out.tab, HC5.out, TB5.out.row⟩ rfl (fun w'_ hS_ => ex_scell t_sT3 _ _ hS_.2.1 _ rfl rfl) rfl rfl ?_
       intro ts_ ht_; simp only [sI, sZ, sS] at ht_; subst ht_
       refine sq_pure (.pointer (some ⟨a, at_ * 70, none⟩)) rfl (fun w'_ => ex_satR a _ _ (at_ : Int) at_ rfl HAL.out _ _ rfl rfl rfl) rfl rfl ?_
       intro ts_ ht_; simp only [sI, sZ, sS] at ht_; subst ht_
       refine sq_pure (.pointer (some ⟨a, at_ * 70 + 67, none⟩)) rfl (fun w'_ => ex_field 62 1 (.pointer (some ⟨a, at_ * 70, none⟩)) (.pointer (some ⟨a, at_ * 70 + 67, none⟩)) (t_fa62_1 a (at_ * 70)) _ rfl rfl) rfl rfl ?_
       intro ts_ ht_; simp only [sI, sZ, sS] at ht_; subst ht_
       refine sq_take (.int .i64 d1) ⟨TB5.out.tab, HC5.out, TB5.out.row⟩ rfl (fun w'_ hS_ => ex_get t_sT3 a (at_ * 70 + 67) (.int .i64 d1) (rcells L) hS_.2.2 HDC1.out _ rfl rfl) rfl rfl ?_
       intro ts_ ht_; simp only [sI, sZ, sS] at ht_; subst ht_
       refine sq_pure (.pointer (some ⟨g, 0, none⟩)) rfl (fun w'_ => by go_simp) rfl rfl ?_
       intro ts_ ht_; simp only [sI, sZ, sS] at ht_; subst ht_
       refine sq_pure (.pointer (some ⟨g, 0, none⟩)) rfl (fun w'_ => by go_simp) rfl rfl ?_
       intro ts_ ht_; simp only [sI, sZ, sS] at ht_; subst ht_
       refine sq_pure (.pointer (some ⟨g, 0, none⟩)) rfl (fun w'_ => ex_field 59 0 (.pointer (some ⟨g, 0, none⟩)) (.pointer (some ⟨g, 0, none⟩)) (t_fa59_0 g) _ rfl rfl) rfl rfl ?_
       intro ts_ ht_; simp only [sI, sZ, sS] at ht_; subst ht_
       refine sq_take (.slice (some ⟨a, 0, none⟩) L.length L.length) ⟨TB5.out.tab, HC5.out, TB5.out.row⟩ rfl (fun w'_ hS_ => ex_get t_sT57 g 0 (.slice (some ⟨a, 0, none⟩) L.length L.length) #[.slice (some ⟨a, 0, none⟩) L.length L.length] hS_.1 rfl _ rfl rfl) rfl rfl ?_
       intro ts_ ht_; simp only [sI, sZ, sS] at ht_; subst ht_
       refine sq_pure (.int .i64 (b : Int)) rfl (fun w'_ => by go_simp) rfl rfl ?_
       intro ts_ ht_; simp only [sI, sZ, sS] at ht_; subst ht_
       refine sq_pure (.pointer (some ⟨a, b * 70, none⟩)) rfl (fun w'_ => ex_satR a _ _ (b : Int) b rfl HBL.out _ _ rfl rfl rfl) rfl rfl ?_
       intro ts_ ht_; simp only [sI, sZ, sS] at ht_; subst ht_
       refine sq_pure (.pointer (some ⟨a, b * 70 + 67, none⟩)) rfl (fun w'_ => ex_field 62 1 (.pointer (some ⟨a, b * 70, none⟩)) (.pointer (some ⟨a, b * 70 + 67, none⟩)) (t_fa62_1 a (b * 70)) _ rfl rfl) rfl rfl ?_
       intro ts_ ht_; simp only [sI, sZ, sS] at ht_; subst ht_
       refine sq_take (.int .i64 d2) ⟨TB5.out.tab, HC5.out, TB5.out.row⟩ rfl (fun w'_ hS_ => ex_get t_sT3 a (b * 70 + 67) (.int .i64 d2) (rcells L) hS_.2.2 HDC2.out _ rfl rfl) rfl rfl ?_
       intro ts_ ht_; simp only [sI, sZ, sS] at ht_; subst ht_
       refine sq_pure (.bool true) rfl (fun w'_ => by go_simp; try rw [ce]) rfl rfl ?_
       intro ts_ ht_; simp only [sI, sZ, sS] at ht_; subst ht_
       refine sq_end ?_
       clear WR64
       go_wp2_with (first
         | ((with_reducible refine gate_d (N := 79) rfl ?_); refine ag_fix (.pointer (some (ad.add x11.toNat))) (ex_sat _ _ x11 _ _ HV.out HJ0.out HC.out t_us27 t_sT3 _ _ rfl rfl rfl) rfl ?_)
         | ((with_reducible refine gate_d (N := 80) rfl ?_); refine ag_fix (.int .i64 (at_ : Int)) (ex_scell t_sT3 _ _ HC5.out _ rfl rfl) rfl ?_))
       (try simp only [Act.put, sI, sZ, sS])
       go_roundg K2
       case measure => omega
       case rel => exact ⟨_, at_, j + 1, rfl, rfl, hid (by have := HJ.out; have := HJM.out; have := HLn.out; rw [k64 (by omega) (by omega)]; omega), hid (by have := HK2.out; omega), hid (by have := HJL.out; omega), HAL, HR2, SO5, BK5, TB5, HL5⟩
      ·
       have ce : decide (d1 < d2) = false := decide_eq_false e_
       have HR2 : Hid (roomG L (some b) (l.drop (j + 1)) = roomG L none l) := hid ((room_on (L := L) (best := some b) (b' := some b) HJL.out HAT.out HNN.out (if_neg (show ¬ depZ L at_ < depZ L b by rw [HD1.out, HD2.out]; exact e_))).symm.trans HRG.out)
       clear e_
       go_wp2_with (first
         | ((with_reducible refine gate_d (N := 53) rfl ?_); obtain ⟨A_, c_, hv_⟩ := SO.out.sl.shape; rw [List.length_map, List.length_map] at hv_; refine ag_fix (.int .i64 (l.length : Int)) (ex_len t_us27 _ _ _ _ hv_ _ rfl rfl) rfl ?_; clear hv_))
       (try simp only [Act.put, sI, sZ, sS])
       have WR64 := i64_w
       refine sq_region (fun w'_ => Blk w'_ g 59 #[.slice (some ⟨a, 0, none⟩) L.length L.length] ∧ w'_.cell? (ad.add x11.toNat) = some (.int .i64 (at_ : Int)) ∧ Blk w'_ a 62 (rcells L)) [] [(0, 2), (1, 2), (2, 2), (3, 1), (4, 2), (5, 2), (6, 2), (7, 1), (8, 2), (9, 2), (10, 1), (11, 2), (12, 2), (13, 2), (14, 1), (15, 2), (16, 2), (17, 2), (18, 1), (19, 2)] (by kernel_rfl) (by kernel_rfl) (by kernel_rfl) rfl ?_
       intro w5 hb_
       have HL5 := hid (HL.out.trans (hb_.mono HL.out.size))
       have TB5 := hid (TB.out.below hb_)
       have BK5 := hid (BK.out.below hb_ BK.out.lt)
       have SO5 := hid (SO.out.below hb_)
       have HC5 : Hid (w5.cell? (ad.add x11.toNat) = some (.int .i64 (at_ : Int))) := hid ((hb_.cell (World.block_lt_of_cell? _ _ HCE.out)).trans HCE.out)
       clear hb_ HL TB BK SO HCE
       refine sq_pure (.pointer (some ⟨g, 0, none⟩)) rfl (fun w'_ => by go_simp) rfl rfl ?_
       intro ts_ ht_; simp only [sI, sZ, sS] at ht_; subst ht_
       refine sq_pure (.pointer (some ⟨g, 0, none⟩)) rfl (fun w'_ => by go_simp) rfl rfl ?_
       intro ts_ ht_; simp only [sI, sZ, sS] at ht_; subst ht_
       refine sq_pure (.pointer (some ⟨g, 0, none⟩)) rfl (fun w'_ => ex_field 59 0 (.pointer (some ⟨g, 0, none⟩)) (.pointer (some ⟨g, 0, none⟩)) (t_fa59_0 g) _ rfl rfl) rfl rfl ?_
       intro ts_ ht_; simp only [sI, sZ, sS] at ht_; subst ht_
       refine sq_take (.slice (some ⟨a, 0, none⟩) L.length L.length) ⟨TB5.out.tab, HC5.out, TB5.out.row⟩ rfl (fun w'_ hS_ => ex_get t_sT57 g 0 (.slice (some ⟨a, 0, none⟩) L.length L.length) #[.slice (some ⟨a, 0, none⟩) L.length L.length] hS_.1 rfl _ rfl rfl) rfl rfl ?_
       intro ts_ ht_; simp only [sI, sZ, sS] at ht_; subst ht_
       refine sq_pure (u) rfl (fun w'_ => by go_simp) rfl rfl ?_
       intro ts_ ht_; simp only [sI, sZ, sS] at ht_; subst ht_
       refine sq_pure (.int .i64 x11) rfl (fun w'_ => by go_simp) rfl rfl ?_
       intro ts_ ht_; simp only [sI, sZ, sS] at ht_; subst ht_
       refine sq_pure (.pointer (some (ad.add x11.toNat))) rfl (fun w'_ => ex_sat _ _ x11 _ _ HV.out HJ0.out HC.out t_us27 t_sT3 _ _ rfl rfl rfl) rfl rfl ?_
       intro ts_ ht_; simp only [sI, sZ, sS] at ht_; subst ht_
       refine sq_take (.int .i64 (at_ : Int)) ⟨TB5.out.tab, HC5.out, TB5.out.row⟩ rfl (fun w'_ hS_ => ex_scell t_sT3 _ _ hS_.2.1 _ rfl rfl) rfl rfl ?_
       intro ts_ ht_; simp only [sI, sZ, sS] at ht_; subst ht_
       refine sq_pure (.pointer (some ⟨a, at_ * 70, none⟩)) rfl (fun w'_ => ex_satR a _ _ (at_ : Int) at_ rfl HAL.out _ _ rfl rfl rfl) rfl rfl ?_
       intro ts_ ht_; simp only [sI, sZ, sS] at ht_; subst ht_
       refine sq_pure (.pointer (some ⟨a, at_ * 70 + 67, none⟩)) rfl (fun w'_ => ex_field 62 1 (.pointer (some ⟨a, at_ * 70, none⟩)) (.pointer (some ⟨a, at_ * 70 + 67, none⟩)) (t_fa62_1 a (at_ * 70)) _ rfl rfl) rfl rfl ?_
       intro ts_ ht_; simp only [sI, sZ, sS] at ht_; subst ht_
       refine sq_take (.int .i64 d1) ⟨TB5.out.tab, HC5.out, TB5.out.row⟩ rfl (fun w'_ hS_ => ex_get t_sT3 a (at_ * 70 + 67) (.int .i64 d1) (rcells L) hS_.2.2 HDC1.out _ rfl rfl) rfl rfl ?_
       intro ts_ ht_; simp only [sI, sZ, sS] at ht_; subst ht_
       refine sq_pure (.pointer (some ⟨g, 0, none⟩)) rfl (fun w'_ => by go_simp) rfl rfl ?_
       intro ts_ ht_; simp only [sI, sZ, sS] at ht_; subst ht_
       refine sq_pure (.pointer (some ⟨g, 0, none⟩)) rfl (fun w'_ => by go_simp) rfl rfl ?_
       intro ts_ ht_; simp only [sI, sZ, sS] at ht_; subst ht_
       refine sq_pure (.pointer (some ⟨g, 0, none⟩)) rfl (fun w'_ => ex_field 59 0 (.pointer (some ⟨g, 0, none⟩)) (.pointer (some ⟨g, 0, none⟩)) (t_fa59_0 g) _ rfl rfl) rfl rfl ?_
       intro ts_ ht_; simp only [sI, sZ, sS] at ht_; subst ht_
       refine sq_take (.slice (some ⟨a, 0, none⟩) L.length L.length) ⟨TB5.out.tab, HC5.out, TB5.out.row⟩ rfl (fun w'_ hS_ => ex_get t_sT57 g 0 (.slice (some ⟨a, 0, none⟩) L.length L.length) #[.slice (some ⟨a, 0, none⟩) L.length L.length] hS_.1 rfl _ rfl rfl) rfl rfl ?_
       intro ts_ ht_; simp only [sI, sZ, sS] at ht_; subst ht_
       refine sq_pure (.int .i64 (b : Int)) rfl (fun w'_ => by go_simp) rfl rfl ?_
       intro ts_ ht_; simp only [sI, sZ, sS] at ht_; subst ht_
       refine sq_pure (.pointer (some ⟨a, b * 70, none⟩)) rfl (fun w'_ => ex_satR a _ _ (b : Int) b rfl HBL.out _ _ rfl rfl rfl) rfl rfl ?_
       intro ts_ ht_; simp only [sI, sZ, sS] at ht_; subst ht_
       refine sq_pure (.pointer (some ⟨a, b * 70 + 67, none⟩)) rfl (fun w'_ => ex_field 62 1 (.pointer (some ⟨a, b * 70, none⟩)) (.pointer (some ⟨a, b * 70 + 67, none⟩)) (t_fa62_1 a (b * 70)) _ rfl rfl) rfl rfl ?_
       intro ts_ ht_; simp only [sI, sZ, sS] at ht_; subst ht_
       refine sq_take (.int .i64 d2) ⟨TB5.out.tab, HC5.out, TB5.out.row⟩ rfl (fun w'_ hS_ => ex_get t_sT3 a (b * 70 + 67) (.int .i64 d2) (rcells L) hS_.2.2 HDC2.out _ rfl rfl) rfl rfl ?_
       intro ts_ ht_; simp only [sI, sZ, sS] at ht_; subst ht_
       refine sq_pure (.bool false) rfl (fun w'_ => by go_simp; try rw [ce]) rfl rfl ?_
       intro ts_ ht_; simp only [sI, sZ, sS] at ht_; subst ht_
       refine sq_end ?_
       clear WR64
       go_wp2_with fail
       go_roundg K2
       case measure => omega
       case rel => exact ⟨_, b, j + 1, rfl, rfl, hid (by have := HJ.out; have := HJM.out; have := HLn.out; rw [k64 (by omega) (by omega)]; omega), hid (by have := HK2.out; omega), hid (by have := HJL.out; omega), HBL, HR2, SO5, BK5, TB5, HL5⟩
     ·
      have cb : decide (x11 < (l.length : Int)) = false := decide_eq_false c
      have HPE : Hid (placeZ L q = b) := hid (by
       have h_ := HRG.out
       rw [List.drop_eq_nil_of_le (by have := HJ.out; omega), show roomG L (some b) [] = some b from rfl] at h_
       unfold placeZ roomZ; rw [HF.out, HLR.out, ← h_]; rfl)
      have HPL := HBL
      clear c
      go_wp2_with (first
        | ((with_reducible refine gate_d (N := 53) rfl ?_); obtain ⟨A_, c_, hv_⟩ := SO.out.sl.shape; rw [List.length_map, List.length_map] at hv_; refine ag_fix (.int .i64 (l.length : Int)) (ex_len t_us27 _ _ _ _ hv_ _ rfl rfl) rfl ?_; clear hv_))
      (try simp only [Act.put, sI, sZ, sS])
      have WR64 := i64_w
      refine sq_region (fun w'_ => Blk w'_ g 59 #[.slice (some ⟨a, 0, none⟩) L.length L.length] ∧ Blk w'_ g4 46 (pv q.1 q.2.1 q.2.2.1 q.2.2.2.1)) [10] [(0, 2), (1, 2), (2, 2), (3, 1), (4, 2), (5, 1), (6, 2), (7, 2), (8, 2), (9, 2), (10, 0)] (by kernel_rfl) (by kernel_rfl) (by kernel_rfl) rfl ?_
      intro w5 hb_
      have HL5 := hid (HL.out.trans (hb_.mono HL.out.size))
      have TB5 := hid (TB.out.below hb_)
      have BK5 := hid (BK.out.below hb_ BK.out.lt)
      clear hb_ HL TB BK SO
      refine sq_pure (.pointer (some ⟨g, 0, none⟩)) rfl (fun w'_ => by go_simp) rfl rfl ?_
      intro ts_ ht_; simp only [sI, sZ, sS] at ht_; subst ht_
      refine sq_pure (.pointer (some ⟨g, 0, none⟩)) rfl (fun w'_ => by go_simp) rfl rfl ?_
      intro ts_ ht_; simp only [sI, sZ, sS] at ht_; subst ht_
      refine sq_pure (.pointer (some ⟨g, 0, none⟩)) rfl (fun w'_ => ex_field 59 0 (.pointer (some ⟨g, 0, none⟩)) (.pointer (some ⟨g, 0, none⟩)) (t_fa59_0 g) _ rfl rfl) rfl rfl ?_
      intro ts_ ht_; simp only [sI, sZ, sS] at ht_; subst ht_
      refine sq_take (.slice (some ⟨a, 0, none⟩) L.length L.length) ⟨TB5.out.tab, BK5.out⟩ rfl (fun w'_ hS_ => ex_get t_sT57 g 0 (.slice (some ⟨a, 0, none⟩) L.length L.length) #[.slice (some ⟨a, 0, none⟩) L.length L.length] hS_.1 rfl _ rfl rfl) rfl rfl ?_
      intro ts_ ht_; simp only [sI, sZ, sS] at ht_; subst ht_
      refine sq_pure (.int .i64 (b : Int)) rfl (fun w'_ => by go_simp) rfl rfl ?_
      intro ts_ ht_; simp only [sI, sZ, sS] at ht_; subst ht_
      refine sq_take (.agg (pv q.1 q.2.1 q.2.2.1 q.2.2.2.1)) ⟨TB5.out.tab, BK5.out⟩ rfl (fun w'_ hS_ => ex_load posT g4 0 (pv q.1 q.2.1 q.2.2.1 q.2.2.2.1) (pv q.1 q.2.1 q.2.2.1 q.2.2.2.1) hS_.2 (pos_le HQ.out) (pos_all HQ.out) _ rfl rfl) rfl rfl ?_
      intro ts_ ht_; simp only [sI, sZ, sS] at ht_; subst ht_
      refine sq_pure (.int .i64 q.2.2.2.2) rfl (fun w'_ => by go_simp) rfl rfl ?_
      intro ts_ ht_; simp only [sI, sZ, sS] at ht_; subst ht_
      refine sq_pure (.int .i64 y) rfl (fun w'_ => by go_simp) rfl rfl ?_
      intro ts_ ht_; simp only [sI, sZ, sS] at ht_; subst ht_
      refine sq_pure (.agg (rentC q y true)) rfl (fun w'_ => ex_build _ _ rfl (fun w_ => by simp only [List.map_toArray, List.map_cons, List.map_nil]; exact build_rent HQ.out y w_)) rfl rfl ?_
      intro ts_ ht_; simp only [sI, sZ, sS] at ht_; subst ht_
      refine sq_pure (.pointer (some ⟨a, b * 70, none⟩)) rfl (fun w'_ => ex_satR a _ _ _ b rfl HPL.out _ _ rfl rfl rfl) rfl rfl ?_
      intro ts_ ht_; simp only [sI, sZ, sS] at ht_; subst ht_
      refine sq_act rfl (fun Q'_ hQ_ => ?_)
      refine ag_store t_aT62 a (b * 70) (rcells L) (rentC q y true) (rcells (L.set b (some (q, y)))) TB5.out.row (rentC_size _ _ _) (rc_le HPL.out) (rentC_one _ _ _) (by have h_ := rc_put HPL.out (some (q, y)); unfold rent at h_; exact h_) rfl _ _ rfl rfl rfl ?_
      intro w7 ho_ hB_
      have PP := hid (rput_is TB5.out HL5.out HQ.out HPL.out HPE.out ho_ hB_)
      clear ho_ hB_
      refine act_end ?_
      refine hQ_ _ _ (fun h_ => absurd h_ (by decide)) ?_
      clear hQ_ Q'_
      simp only [Act.put]
      refine sq_end ?_
      clear WR64
      go_wp2_with fail
      go_end0
      exact ⟨_, rfl, PP.out⟩
end Go.Proofs.Ytpjocgebnodnoaa
