/- BoardAsks. -/
import Derived.Test.YtpgdcpkggmkooaaBt
import Derived.Deep.RegionHeld3
import Derived.Deep.MidRow
namespace Go.Proofs.Ytpgdcpkggmkooaa
open Go.RowKit
set_option linter.unusedSimpArgs false
attribute [local go_sem] bne_self_eq_false
theorem size_board : (Try.prog.info? 24).map (·.size) = some 64 := by kernel_rfl
theorem yieldsIf_agg {P : Program} {ops : Array Oper} {S : World → Prop} {o : Oper} {a : Act} {t t' : TypeId} {n : Nat} {z : Array Value} (T : AggT P t n z) (g off : Nat) (cs vs : Array Value) (hB : ∀ w, S w → Blk w g t' cs) (hle : off + n ≤ cs.size) (hv : cs.extract off (off + n) = vs)
    (hw : Region.wanted o (yielded ops a.tmps) = true) (x : Operand) (ho : o.op = .load t x) (hx : a.eval x = .pointer (some ⟨g, off, none⟩)) : YieldsIf P ops S o (.agg vs) a :=
  .inl ⟨hw, fun w hw' => by
    unfold execOp
    simp only [ho, hx, Instr.loadAt, Instr.sureAddr, Sem.run_bind, Sem.run_pure, Result.andThen_ok, run_ld T g off cs (hB w hw') hle, hv]⟩
section
variable {w w1 w2 : World} {g : Nat} {t : TypeId} {cs : List Value}
theorem bs_next (h : Below w.heap.size w w1 ∧ Blk w1 g t cs.toArray) (hb : Below w1.heap.size w1 w2) : Below w.heap.size w w2 ∧ Blk w2 g t cs.toArray := by
  exact ⟨h.1.trans (hb.mono h.1.size), h.2.below hb h.2.lt⟩
theorem bs_of (h : Below w.heap.size w w1) (h2 : Blk w1 g t cs.toArray) : Below w.heap.size w w1 ∧ Blk w1 g t cs.toArray :=
  ⟨h, h2⟩
theorem bs_drew (h : Below w.heap.size w w1 ∧ Blk w1 g t cs.toArray) : Below w.heap.size w w1.drew ∧ Blk w1.drew g t cs.toArray := bs_next h (Below.refl _ _).drew
end
set_option maxRecDepth 10000 in
set_option maxHeartbeats 4000000 in
theorem asks_t (l : List Int) (s m : Int) (h8 : B8 l) (h0 : 0 ≤ s) (h1 : s < 64) (w : World) :
    Calls Try.prog 7 #[.agg (bv l), .int .i64 s, .int .i64 m] w fun e w' => e = .returned (.bool true) ∧ Below w.heap.size w w' := by
  have HL := hid h8.1
  have HE := hid h8.2
  have H8 := hid h8
  clear h8
  have R := hid (rRight_t s h0 h1)
  have MN := hid (bdMan_t l s H8.out h0 h1)
  have AT := at_board w.heap.size 0 s h0 h1
  rw [Nat.zero_add] at AT
  have C0 : Hid (∀ w1, Blk w1 w.heap.size 24 (bv l) → w1.cell? ⟨w.heap.size, s.toNat, none⟩ = some (.int .i8 (l.getD s.toNat 0))) := hid (fun w1 h => (h.cell _).trans (bv_get l _ (by rw [HL.out]; omega)))
  obtain ⟨x0, x1⟩ := HE.out s.toNat
  generalize l.getD s.toNat 0 = x at *
  generalize s.toNat = k at *
  go_enter Try.func7, Try.ntmps7
  go_wp2_with (first
    | (refine ag_box (bv l) w.heap.size rfl rfl _ rfl rfl ?_; intro w1 hb1 hB1 hs1)
    | (refine ag_load boardT w.heap.size 0 (bv l) (bv l) hB1 (bw_le HL.out) (bw_ex HL.out) rfl _ rfl rfl ?_))
  refine (bdWakes _).mono ?_
  rintro e w3 ⟨rfl, hb3⟩
  have GL := hid (hb1.trans (hb3.mono (by omega)))
  have G1 := hid (hB1.below hb3 (by omega))
  clear hb1 hB1 hs1 hb3
  have c1 := C0.out _ G1.out
  go_wp2_with (go_at_call 24; refine (R.out _).mono ?_; rintro e w' ⟨rfl, rfl⟩)
  obtain ⟨cs, hcs⟩ : ∃ cs, cs = (bv l).toList := ⟨_, rfl⟩
  have hcs' : cs.toArray = bv l := by rw [hcs]
  rw [← hcs'] at G1
  have K1 : Hid (∀ w', Calls Try.prog 30 #[.agg cs.toArray, .int .i64 s] w' fun e w'' => e = .returned (.int .i64 x) ∧ Below w'.heap.size w' w'') := hid (by rw [hcs']; exact MN.out)
  have K2 : Hid (∀ w', Calls Try.prog 29 #[.agg cs.toArray, .int .i64 m] w' (Lst w' (whereK l m 64))) := hid (by rw [hcs']; exact bdWhere l m H8.out)
  have K3 : Hid (∀ w', Calls Try.prog 32 #[.agg cs.toArray, .int .i64 m] w' (Lst w' (whereK l m 64))) := hid (by rw [hcs']; exact rbWhere l m H8.out)
  have K4 := hid (fun B1 B2 v1 v2 w' h1 h2 => rSame (whereK l m 64) (by have := whereK_len l m 64; omega) B1 B2 v1 v2 w' h1 h2)
  have HCS := hid hcs'
  have HL64 : 0 + 64 ≤ cs.toArray.size ∧ cs.toArray.extract 0 (0 + 64) = cs.toArray := by rw [hcs']; exact ⟨bw_le HL.out, bw_ex HL.out⟩
  have exx : (x != x) = false := bne_f rfl
  clear hcs hcs'
  have G0 := hid (GL.out.size)
  refine wp_region_noPanic ?_
  refine wp_region_held_drew (S := fun w' => Below w.heap.size w w' ∧ Blk w' w.heap.size 24 cs.toArray) (by kernel_rfl) (bs_next (bs_of GL.out G1.out) (Below.refl _ _).drew) (fun hHeld => ?_)
  refine wpAnyH_take (i := 0) rfl (by kernel_rfl) (by kernel_rfl) (by kernel_rfl) (fun _ _ _ h => h) (yieldsIf_agg boardT w.heap.size 0 cs.toArray cs.toArray (fun w7 hw7 => hw7.2) HL64.1 HL64.2 rfl _ rfl rfl) hHeld ?_
  try simp only [Act.put, List.setIfInBounds_toArray, List.set_cons_zero, List.set_cons_succ]
  refine wpAnyH_take (i := 1) rfl (by kernel_rfl) (by kernel_rfl) (by kernel_rfl) (fun _ _ _ h => h) (.inl ⟨rfl, fun w7 hw7 => by go_simp; try with_reducible rfl⟩) hHeld ?_
  try simp only [Act.put, List.setIfInBounds_toArray, List.set_cons_zero, List.set_cons_succ]
  refine wpAnyH_take (i := 3) rfl (by kernel_rfl) (by kernel_rfl) (by kernel_rfl) (fun _ _ _ h => h) (.inl ⟨rfl, fun w7 hw7 => by go_simp; try with_reducible rfl⟩) hHeld ?_
  try simp only [Act.put, List.setIfInBounds_toArray, List.set_cons_zero, List.set_cons_succ]
  refine wpAnyH_ready (rs := [2]) (by kernel_rfl) (by simp) ?_
  refine AllReadyH.cons rfl (fun K hK => ?_) AllReadyH.nil
  refine (if_pos (by rfl)).mpr ?_
  go_simp
  refine (K1.out _).mono ?_
  rintro e w2 ⟨rfl, hb2⟩
  go_wp2_with fail
  refine hK.out _ _ (bs_next hHeld hb2) (fun hHeld => ?_)
  clear hK K
  try simp only [Act.put, List.setIfInBounds_toArray, List.set_cons_zero, List.set_cons_succ]
  refine wpAnyH_take (i := 4) rfl (by kernel_rfl) (by kernel_rfl) (by kernel_rfl) (fun _ _ _ h => h) (.inl ⟨rfl, fun w7 hw7 => by go_simp; try with_reducible rfl⟩) hHeld ?_
  try simp only [Act.put, List.setIfInBounds_toArray, List.set_cons_zero, List.set_cons_succ]
  refine wpAnyH_take (i := 5) rfl (by kernel_rfl) (by kernel_rfl) (by kernel_rfl) (fun _ _ _ h => h) (.inl ⟨rfl, fun w7 hw7 => by go_simp; try with_reducible rfl⟩) hHeld ?_
  try simp only [Act.put, List.setIfInBounds_toArray, List.set_cons_zero, List.set_cons_succ]
  refine wpAnyH_take (i := 7) rfl (by kernel_rfl) (by kernel_rfl) (by kernel_rfl) (fun _ _ _ h => h) (.inl ⟨rfl, fun w7 hw7 => by go_simp; try with_reducible rfl⟩) hHeld ?_
  try simp only [Act.put, List.setIfInBounds_toArray, List.set_cons_zero, List.set_cons_succ]
  refine wpAnyH_take (i := 10) rfl (by kernel_rfl) (by kernel_rfl) (by kernel_rfl) (fun _ _ _ h => h) (.inl ⟨rfl, fun w7 hw7 => by go_simp; try with_reducible rfl⟩) hHeld ?_
  try simp only [Act.put, List.setIfInBounds_toArray, List.set_cons_zero, List.set_cons_succ]
  refine wpAnyH_take (i := 6) rfl (by kernel_rfl) (by kernel_rfl) (by kernel_rfl) (fun _ _ _ h => h) (yieldsIf_agg boardT w.heap.size 0 cs.toArray cs.toArray (fun w7 hw7 => hw7.2) HL64.1 HL64.2 rfl _ rfl rfl) hHeld ?_
  try simp only [Act.put, List.setIfInBounds_toArray, List.set_cons_zero, List.set_cons_succ]
  refine wpAnyH_take (i := 9) rfl (by kernel_rfl) (by kernel_rfl) (by kernel_rfl) (fun _ _ _ h => h) (yieldsIf_agg boardT w.heap.size 0 cs.toArray cs.toArray (fun w7 hw7 => hw7.2) HL64.1 HL64.2 rfl _ rfl rfl) hHeld ?_
  try simp only [Act.put, List.setIfInBounds_toArray, List.set_cons_zero, List.set_cons_succ]
  refine wpAnyH_ready (rs := [8]) (by kernel_rfl) (by simp) ?_
  refine AllReadyH.cons rfl (fun K hK => ?_) AllReadyH.nil
  refine (if_pos (by rfl)).mpr ?_
  go_simp
  refine (K2.out _).mono ?_
  rintro e w4 ⟨v4, rfl, ho4, hb4⟩
  go_wp2_with fail
  refine hK.out _ _ (bs_next hHeld hb4) (fun hHeld => ?_)
  clear hK K
  try simp only [Act.put, List.setIfInBounds_toArray, List.set_cons_zero, List.set_cons_succ]
  refine wpAnyH_ready (rs := [11]) (by kernel_rfl) (by simp) ?_
  refine AllReadyH.cons rfl (fun K hK => ?_) AllReadyH.nil
  refine (if_pos (by rfl)).mpr ?_
  go_simp
  refine (K3.out _).mono ?_
  rintro e w5 ⟨v5, rfl, ho5, hb5⟩
  go_wp2_with fail
  refine hK.out _ _ (bs_next hHeld hb5) (fun hHeld => ?_)
  clear hK K
  try simp only [Act.put, List.setIfInBounds_toArray, List.set_cons_zero, List.set_cons_succ]
  refine wpAnyH_ready (rs := [12]) (by kernel_rfl) (by simp) ?_
  refine AllReadyH.cons rfl (fun K hK => ?_) AllReadyH.nil
  refine (if_pos (by rfl)).mpr ?_
  go_simp
  refine (K4.out _ _ _ _ _ (ho4.below hb5) (ho5)).mono ?_
  rintro e w6 ⟨rfl, hb6⟩
  go_wp2_with fail
  refine hK.out _ _ (bs_next hHeld hb6) (fun hHeld => ?_)
  clear hK K
  try simp only [Act.put, List.setIfInBounds_toArray, List.set_cons_zero, List.set_cons_succ]
  refine wpAnyH_take (i := 13) rfl (by kernel_rfl) (by kernel_rfl) (by kernel_rfl) (fun _ _ _ h => h) (.inl ⟨rfl, fun w7 hw7 => by go_simp; try with_reducible rfl⟩) hHeld ?_
  try simp only [Act.put, List.setIfInBounds_toArray, List.set_cons_zero, List.set_cons_succ]
  refine wpAnyH_take (i := 14) rfl (by kernel_rfl) (by kernel_rfl) (by kernel_rfl) (fun _ _ _ h => h) (.inl ⟨rfl, fun w7 hw7 => by go_simp; try with_reducible rfl⟩) hHeld ?_
  try simp only [Act.put, List.setIfInBounds_toArray, List.set_cons_zero, List.set_cons_succ]
  refine wpAnyH_done (by kernel_rfl) ?_ _
  refine NoPanic.normal ?_
  all_goals
    clear K1 K2 K3 K4 GL G1 c1
    have GL := hid hHeld.1
    have G1 := hid hHeld.2
    rw [HCS.out] at G1
    clear hHeld
    generalize cs.toArray = csA at *
    go_wp2
    go_loopw [36] (fun v wr => ∃ j : Nat, j ≤ 2 ∧ v = .int .i64 j ∧ Hid (Below w.heap.size w wr) ∧ Hid (Blk wr w.heap.size 24 (bv l))) (fun v _ => 2 - (intOf v).toNat)
    case atStart => exact ⟨0, by omega, rfl, GL, G1⟩
    case round =>
      obtain ⟨j, hj, rfl, GL, G1⟩ := hrel
      rcases (show j = 0 ∨ j = 1 ∨ j = 2 by omega) with rfl | rfl | rfl
      · have K := hid (bdKing l 0 H8.out)
        have W := hid (rbWhere l (6) H8.out)
        have KD : kingZ l 0 = ((whereK l (6) 64).head?.map Int.ofNat).getD (-1) := rfl
        rw [KD] at K
        clear KD
        rcases hx : whereK l (6) 64 with _ | ⟨y, ys⟩
        · rw [hx] at W K
          rw [show (List.head? ([] : List Nat)).map Int.ofNat = none from rfl, show (none : Option Int).getD (-1) = -1 from rfl] at K
          clear hx
          go_wp2_with (refine ag_load boardT w.heap.size 0 (bv l) (bv l) G1.out (bw_le HL.out) (bw_ex HL.out) rfl _ rfl rfl ?_)
          refine (W.out _).mono ?_
          rintro e w5 ⟨v5, rfl, ho5, hb5⟩
          obtain ⟨A5, c5, rfl⟩ := ho5.shape
          rw [show (iv []).length = 0 from rfl]
          clear ho5
          replace GL := hid (GL.out.trans (hb5.mono GL.out.size))
          replace G1 := hid (G1.out.below hb5 G1.out.lt)
          clear hb5
          go_wp2_with (first
            | (refine ag_load boardT w.heap.size 0 (bv l) (bv l) G1.out (bw_le HL.out) (bw_ex HL.out) rfl _ rfl rfl ?_))
          refine (K.out _).mono ?_
          rintro e w6 ⟨rfl, hb6⟩
          replace GL := hid (GL.out.trans (hb6.mono GL.out.size))
          replace G1 := hid (G1.out.below hb6 G1.out.lt)
          clear hb6
          go_wp2
          go_loopw [55] (fun v wr => ∃ j : Nat, j ≤ 7 ∧ v = .int .i64 j ∧ Hid (Below w.heap.size w wr) ∧ Hid (Blk wr w.heap.size 24 (bv l))) (fun v _ => 7 - (intOf v).toNat)
          case atStart => exact ⟨0, by omega, rfl, GL, G1⟩
          case round =>
            obtain ⟨j, hj, rfl, GL, G1⟩ := hrel
            by_cases hj7 : j < 7
            · have K1 := hid (bdMany l (j : Int) 0 H8.out)
              have K2 := hid (rbMany l (j : Int) 0 H8.out)
              generalize manyZ l (j : Int) 0 = mm at *
              have g1 := G1.out.lt
              go_wp2
              refine up_region (by kernel_rfl) (by kernel_rfl) ?_
              refine wpQuiet_step (fun K hK => ?_)
              refine q_load boardT w.heap.size 0 (bv l) (bv l) (fun w' ⟨n, hn⟩ => by rw [hn]; exact G1.out.below n.below g1) (bw_le HL.out) (bw_ex HL.out) _ rfl rfl rfl (hK _ ?_)
              clear hK K
              quiet_step (fail)
              quiet_step (fail)
              quiet_step ((go_at_call 34; refine (K1.out _).mono ?_; rintro e w7 ⟨rfl, hb7⟩; exact ⟨rfl, Up.next _ hb7 (Up.below _).size⟩))
              refine wpQuiet_step (fun K hK => ?_)
              refine q_load boardT w.heap.size 0 (bv l) (bv l) (fun w' ⟨n, hn⟩ => by rw [hn]; exact G1.out.below n.below g1) (bw_le HL.out) (bw_ex HL.out) _ rfl rfl rfl (hK _ ?_)
              clear hK K
              quiet_step (fail)
              quiet_step (fail)
              quiet_step ((go_at_call 35; refine (K2.out _).mono ?_; rintro e w7 ⟨rfl, hb7⟩; exact ⟨rfl, Up.next _ hb7 (Up.below _).size⟩))
              quiet_step (fail)
              refine wpQuiet_nil ?_
              rintro w8 ⟨n, rfl⟩
              replace GL := hid (GL.out.trans (n.below.mono GL.out.size))
              replace G1 := hid (G1.out.below n.below g1)
              generalize n.world = w5 at *
              clear n g1
              go_wp2
              go_roundw
              case rel => exact ⟨j + 1, by omega, by go_num, GL, G1⟩
              case measure => simp [intOf]; omega
            · obtain rfl : j = 7 := by omega
              go_wp2
              go_roundw
              case rel => exact ⟨1, by omega, by go_num, GL, G1⟩
              case measure => simp [intOf]
        · rw [hx] at W K
          rw [show (List.head? (y :: ys)).map Int.ofNat = some (y : Int) from rfl, show (some (y : Int)).getD (-1) = (y : Int) from rfl] at K
          have hyl : y < 64 := by
            have : y ∈ whereK l (6) 64 := by rw [hx]; simp
            unfold whereK at this
            exact List.mem_range.1 (List.mem_filter.1 this).1
          clear hx
          go_wp2_with (refine ag_load boardT w.heap.size 0 (bv l) (bv l) G1.out (bw_le HL.out) (bw_ex HL.out) rfl _ rfl rfl ?_)
          refine (W.out _).mono ?_
          rintro e w5 ⟨v5, rfl, ho5, hb5⟩
          obtain ⟨g5, c5, rfl, hB5, hn5, hm5, c50⟩ := ho5.cell 0 (by rw [iv_len]; simp)
          have n0 : 0 < (iv (y :: ys)).length := by rw [iv_len]; simp
          rw [show (iv (y :: ys))[0]'n0 = .int .i64 (y : Int) from rfl] at c50
          generalize (iv (y :: ys)).length = n at *
          have d0 : decide ((0 : Int) < (n : Int)) = true := decide_eq_true (by omega)
          clear ho5
          replace GL := hid (GL.out.trans (hb5.mono GL.out.size))
          replace G1 := hid (G1.out.below hb5 G1.out.lt)
          clear hb5
          go_wp2_with (first
            | (refine ag_load boardT w.heap.size 0 (bv l) (bv l) G1.out (bw_le HL.out) (bw_ex HL.out) rfl _ rfl rfl ?_))
          refine (K.out _).mono ?_
          rintro e w6 ⟨rfl, hb6⟩
          replace GL := hid (GL.out.trans (hb6.mono GL.out.size))
          replace G1 := hid (G1.out.below hb6 G1.out.lt)
          clear hb6
          go_wp2
          go_loopw [55] (fun v wr => ∃ j : Nat, j ≤ 7 ∧ v = .int .i64 j ∧ Hid (Below w.heap.size w wr) ∧ Hid (Blk wr w.heap.size 24 (bv l))) (fun v _ => 7 - (intOf v).toNat)
          case atStart => exact ⟨0, by omega, rfl, GL, G1⟩
          case round =>
            obtain ⟨j, hj, rfl, GL, G1⟩ := hrel
            by_cases hj7 : j < 7
            · have K1 := hid (bdMany l (j : Int) 0 H8.out)
              have K2 := hid (rbMany l (j : Int) 0 H8.out)
              generalize manyZ l (j : Int) 0 = mm at *
              have g1 := G1.out.lt
              go_wp2
              refine up_region (by kernel_rfl) (by kernel_rfl) ?_
              refine wpQuiet_step (fun K hK => ?_)
              refine q_load boardT w.heap.size 0 (bv l) (bv l) (fun w' ⟨n, hn⟩ => by rw [hn]; exact G1.out.below n.below g1) (bw_le HL.out) (bw_ex HL.out) _ rfl rfl rfl (hK _ ?_)
              clear hK K
              quiet_step (fail)
              quiet_step (fail)
              quiet_step ((go_at_call 34; refine (K1.out _).mono ?_; rintro e w7 ⟨rfl, hb7⟩; exact ⟨rfl, Up.next _ hb7 (Up.below _).size⟩))
              refine wpQuiet_step (fun K hK => ?_)
              refine q_load boardT w.heap.size 0 (bv l) (bv l) (fun w' ⟨n, hn⟩ => by rw [hn]; exact G1.out.below n.below g1) (bw_le HL.out) (bw_ex HL.out) _ rfl rfl rfl (hK _ ?_)
              clear hK K
              quiet_step (fail)
              quiet_step (fail)
              quiet_step ((go_at_call 35; refine (K2.out _).mono ?_; rintro e w7 ⟨rfl, hb7⟩; exact ⟨rfl, Up.next _ hb7 (Up.below _).size⟩))
              quiet_step (fail)
              refine wpQuiet_nil ?_
              rintro w8 ⟨n, rfl⟩
              replace GL := hid (GL.out.trans (n.below.mono GL.out.size))
              replace G1 := hid (G1.out.below n.below g1)
              generalize n.world = w5 at *
              clear n g1
              go_wp2
              go_roundw
              case rel => exact ⟨j + 1, by omega, by go_num, GL, G1⟩
              case measure => simp [intOf]; omega
            · obtain rfl : j = 7 := by omega
              go_wp2
              go_roundw
              case rel => exact ⟨1, by omega, by go_num, GL, G1⟩
              case measure => simp [intOf]
      · have K := hid (bdKing l 1 H8.out)
        have W := hid (rbWhere l (-6) H8.out)
        have KD : kingZ l 1 = ((whereK l (-6) 64).head?.map Int.ofNat).getD (-1) := rfl
        rw [KD] at K
        clear KD
        rcases hx : whereK l (-6) 64 with _ | ⟨y, ys⟩
        · rw [hx] at W K
          rw [show (List.head? ([] : List Nat)).map Int.ofNat = none from rfl, show (none : Option Int).getD (-1) = -1 from rfl] at K
          clear hx
          go_wp2_with (refine ag_load boardT w.heap.size 0 (bv l) (bv l) G1.out (bw_le HL.out) (bw_ex HL.out) rfl _ rfl rfl ?_)
          refine (W.out _).mono ?_
          rintro e w5 ⟨v5, rfl, ho5, hb5⟩
          obtain ⟨A5, c5, rfl⟩ := ho5.shape
          rw [show (iv []).length = 0 from rfl]
          clear ho5
          replace GL := hid (GL.out.trans (hb5.mono GL.out.size))
          replace G1 := hid (G1.out.below hb5 G1.out.lt)
          clear hb5
          go_wp2_with (first
            | (refine ag_load boardT w.heap.size 0 (bv l) (bv l) G1.out (bw_le HL.out) (bw_ex HL.out) rfl _ rfl rfl ?_))
          refine (K.out _).mono ?_
          rintro e w6 ⟨rfl, hb6⟩
          replace GL := hid (GL.out.trans (hb6.mono GL.out.size))
          replace G1 := hid (G1.out.below hb6 G1.out.lt)
          clear hb6
          go_wp2
          go_loopw [55] (fun v wr => ∃ j : Nat, j ≤ 7 ∧ v = .int .i64 j ∧ Hid (Below w.heap.size w wr) ∧ Hid (Blk wr w.heap.size 24 (bv l))) (fun v _ => 7 - (intOf v).toNat)
          case atStart => exact ⟨0, by omega, rfl, GL, G1⟩
          case round =>
            obtain ⟨j, hj, rfl, GL, G1⟩ := hrel
            by_cases hj7 : j < 7
            · have K1 := hid (bdMany l (j : Int) 1 H8.out)
              have K2 := hid (rbMany l (j : Int) 1 H8.out)
              generalize manyZ l (j : Int) 1 = mm at *
              have g1 := G1.out.lt
              go_wp2
              refine up_region (by kernel_rfl) (by kernel_rfl) ?_
              refine wpQuiet_step (fun K hK => ?_)
              refine q_load boardT w.heap.size 0 (bv l) (bv l) (fun w' ⟨n, hn⟩ => by rw [hn]; exact G1.out.below n.below g1) (bw_le HL.out) (bw_ex HL.out) _ rfl rfl rfl (hK _ ?_)
              clear hK K
              quiet_step (fail)
              quiet_step (fail)
              quiet_step ((go_at_call 34; refine (K1.out _).mono ?_; rintro e w7 ⟨rfl, hb7⟩; exact ⟨rfl, Up.next _ hb7 (Up.below _).size⟩))
              refine wpQuiet_step (fun K hK => ?_)
              refine q_load boardT w.heap.size 0 (bv l) (bv l) (fun w' ⟨n, hn⟩ => by rw [hn]; exact G1.out.below n.below g1) (bw_le HL.out) (bw_ex HL.out) _ rfl rfl rfl (hK _ ?_)
              clear hK K
              quiet_step (fail)
              quiet_step (fail)
              quiet_step ((go_at_call 35; refine (K2.out _).mono ?_; rintro e w7 ⟨rfl, hb7⟩; exact ⟨rfl, Up.next _ hb7 (Up.below _).size⟩))
              quiet_step (fail)
              refine wpQuiet_nil ?_
              rintro w8 ⟨n, rfl⟩
              replace GL := hid (GL.out.trans (n.below.mono GL.out.size))
              replace G1 := hid (G1.out.below n.below g1)
              generalize n.world = w5 at *
              clear n g1
              go_wp2
              go_roundw
              case rel => exact ⟨j + 1, by omega, by go_num, GL, G1⟩
              case measure => simp [intOf]; omega
            · obtain rfl : j = 7 := by omega
              go_wp2
              go_roundw
              case rel => exact ⟨2, by omega, by go_num, GL, G1⟩
              case measure => simp [intOf]
        · rw [hx] at W K
          rw [show (List.head? (y :: ys)).map Int.ofNat = some (y : Int) from rfl, show (some (y : Int)).getD (-1) = (y : Int) from rfl] at K
          have hyl : y < 64 := by
            have : y ∈ whereK l (-6) 64 := by rw [hx]; simp
            unfold whereK at this
            exact List.mem_range.1 (List.mem_filter.1 this).1
          clear hx
          go_wp2_with (refine ag_load boardT w.heap.size 0 (bv l) (bv l) G1.out (bw_le HL.out) (bw_ex HL.out) rfl _ rfl rfl ?_)
          refine (W.out _).mono ?_
          rintro e w5 ⟨v5, rfl, ho5, hb5⟩
          obtain ⟨g5, c5, rfl, hB5, hn5, hm5, c50⟩ := ho5.cell 0 (by rw [iv_len]; simp)
          have n0 : 0 < (iv (y :: ys)).length := by rw [iv_len]; simp
          rw [show (iv (y :: ys))[0]'n0 = .int .i64 (y : Int) from rfl] at c50
          generalize (iv (y :: ys)).length = n at *
          have d0 : decide ((0 : Int) < (n : Int)) = true := decide_eq_true (by omega)
          clear ho5
          replace GL := hid (GL.out.trans (hb5.mono GL.out.size))
          replace G1 := hid (G1.out.below hb5 G1.out.lt)
          clear hb5
          go_wp2_with (first
            | (refine ag_load boardT w.heap.size 0 (bv l) (bv l) G1.out (bw_le HL.out) (bw_ex HL.out) rfl _ rfl rfl ?_))
          refine (K.out _).mono ?_
          rintro e w6 ⟨rfl, hb6⟩
          replace GL := hid (GL.out.trans (hb6.mono GL.out.size))
          replace G1 := hid (G1.out.below hb6 G1.out.lt)
          clear hb6
          go_wp2
          go_loopw [55] (fun v wr => ∃ j : Nat, j ≤ 7 ∧ v = .int .i64 j ∧ Hid (Below w.heap.size w wr) ∧ Hid (Blk wr w.heap.size 24 (bv l))) (fun v _ => 7 - (intOf v).toNat)
          case atStart => exact ⟨0, by omega, rfl, GL, G1⟩
          case round =>
            obtain ⟨j, hj, rfl, GL, G1⟩ := hrel
            by_cases hj7 : j < 7
            · have K1 := hid (bdMany l (j : Int) 1 H8.out)
              have K2 := hid (rbMany l (j : Int) 1 H8.out)
              generalize manyZ l (j : Int) 1 = mm at *
              have g1 := G1.out.lt
              go_wp2
              refine up_region (by kernel_rfl) (by kernel_rfl) ?_
              refine wpQuiet_step (fun K hK => ?_)
              refine q_load boardT w.heap.size 0 (bv l) (bv l) (fun w' ⟨n, hn⟩ => by rw [hn]; exact G1.out.below n.below g1) (bw_le HL.out) (bw_ex HL.out) _ rfl rfl rfl (hK _ ?_)
              clear hK K
              quiet_step (fail)
              quiet_step (fail)
              quiet_step ((go_at_call 34; refine (K1.out _).mono ?_; rintro e w7 ⟨rfl, hb7⟩; exact ⟨rfl, Up.next _ hb7 (Up.below _).size⟩))
              refine wpQuiet_step (fun K hK => ?_)
              refine q_load boardT w.heap.size 0 (bv l) (bv l) (fun w' ⟨n, hn⟩ => by rw [hn]; exact G1.out.below n.below g1) (bw_le HL.out) (bw_ex HL.out) _ rfl rfl rfl (hK _ ?_)
              clear hK K
              quiet_step (fail)
              quiet_step (fail)
              quiet_step ((go_at_call 35; refine (K2.out _).mono ?_; rintro e w7 ⟨rfl, hb7⟩; exact ⟨rfl, Up.next _ hb7 (Up.below _).size⟩))
              quiet_step (fail)
              refine wpQuiet_nil ?_
              rintro w8 ⟨n, rfl⟩
              replace GL := hid (GL.out.trans (n.below.mono GL.out.size))
              replace G1 := hid (G1.out.below n.below g1)
              generalize n.world = w5 at *
              clear n g1
              go_wp2
              go_roundw
              case rel => exact ⟨j + 1, by omega, by go_num, GL, G1⟩
              case measure => simp [intOf]; omega
            · obtain rfl : j = 7 := by omega
              go_wp2
              go_roundw
              case rel => exact ⟨2, by omega, by go_num, GL, G1⟩
              case measure => simp [intOf]
      · have K := hid (bdKing l 2 H8.out)
        have K' := hid (bdKing l (-1) H8.out)
        rw [show kingZ l 2 = -1 from rfl] at K
        rw [show kingZ l (-1) = -1 from rfl] at K'
        go_wp2_with (first
          | (refine ag_load boardT w.heap.size 0 (bv l) (bv l) G1.out (bw_le HL.out) (bw_ex HL.out) rfl _ rfl rfl ?_))
        refine (K.out _).mono ?_
        rintro e w5 ⟨rfl, hb5⟩
        replace GL := hid (GL.out.trans (hb5.mono GL.out.size))
        replace G1 := hid (G1.out.below hb5 G1.out.lt)
        clear hb5
        go_wp2_with (first
          | (refine ag_load boardT w.heap.size 0 (bv l) (bv l) G1.out (bw_le HL.out) (bw_ex HL.out) rfl _ rfl rfl ?_))
        refine (K'.out _).mono ?_
        rintro e w6 ⟨rfl, hb6⟩
        replace GL := hid (GL.out.trans (hb6.mono GL.out.size))
        replace G1 := hid (G1.out.below hb6 G1.out.lt)
        clear hb6
        go_wp2
        go_ret
        exact ⟨rfl, GL.out⟩
set_option maxRecDepth 10000 in
set_option maxHeartbeats 4000000 in
theorem asks_f (l : List Int) (s m : Int) (h8 : B8 l) (h : ¬ (0 ≤ s ∧ s < 64)) (w : World) :
    Calls Try.prog 7 #[.agg (bv l), .int .i64 s, .int .i64 m] w fun e w' => e = .returned (.bool true) ∧ Below w.heap.size w w' := by
  have HL := hid h8.1
  have HE := hid h8.2
  have H8 := hid h8
  clear h8
  have R := hid (rRight_f s h)
  have MN := hid (bdMan_f l s H8.out h)
  clear h
  go_enter Try.func7, Try.ntmps7
  go_wp2_with (first
    | (refine ag_box (bv l) w.heap.size rfl rfl _ rfl rfl ?_; intro w1 hb1 hB1 hs1)
    | (refine ag_load boardT w.heap.size 0 (bv l) (bv l) hB1 (bw_le HL.out) (bw_ex HL.out) rfl _ rfl rfl ?_))
  refine (bdWakes _).mono ?_
  rintro e w3 ⟨rfl, hb3⟩
  have GL := hid (hb1.trans (hb3.mono (by omega)))
  have G1 := hid (hB1.below hb3 (by omega))
  clear hb1 hB1 hs1 hb3
  go_wp2_with (go_at_call 24; refine (R.out _).mono ?_; rintro e w' ⟨rfl, rfl⟩)
  obtain ⟨cs, hcs⟩ : ∃ cs, cs = (bv l).toList := ⟨_, rfl⟩
  have hcs' : cs.toArray = bv l := by rw [hcs]
  rw [← hcs'] at G1
  have K1 : Hid (∀ w', Calls Try.prog 30 #[.agg cs.toArray, .int .i64 s] w' fun e w'' => e = .returned (.int .i64 0) ∧ Below w'.heap.size w' w'') := hid (by rw [hcs']; exact MN.out)
  have K2 : Hid (∀ w', Calls Try.prog 29 #[.agg cs.toArray, .int .i64 m] w' (Lst w' (whereK l m 64))) := hid (by rw [hcs']; exact bdWhere l m H8.out)
  have K3 : Hid (∀ w', Calls Try.prog 32 #[.agg cs.toArray, .int .i64 m] w' (Lst w' (whereK l m 64))) := hid (by rw [hcs']; exact rbWhere l m H8.out)
  have K4 := hid (fun B1 B2 v1 v2 w' h1 h2 => rSame (whereK l m 64) (by have := whereK_len l m 64; omega) B1 B2 v1 v2 w' h1 h2)
  have HCS := hid hcs'
  have HL64 : 0 + 64 ≤ cs.toArray.size ∧ cs.toArray.extract 0 (0 + 64) = cs.toArray := by rw [hcs']; exact ⟨bw_le HL.out, bw_ex HL.out⟩
  clear hcs hcs'
  have G0 := hid (GL.out.size)
  refine wp_region_noPanic ?_
  refine wp_region_held_drew (S := fun w' => Below w.heap.size w w' ∧ Blk w' w.heap.size 24 cs.toArray) (by kernel_rfl) (bs_next (bs_of GL.out G1.out) (Below.refl _ _).drew) (fun hHeld => ?_)
  refine wpAnyH_take (i := 0) rfl (by kernel_rfl) (by kernel_rfl) (by kernel_rfl) (fun _ _ _ h => h) (yieldsIf_agg boardT w.heap.size 0 cs.toArray cs.toArray (fun w7 hw7 => hw7.2) HL64.1 HL64.2 rfl _ rfl rfl) hHeld ?_
  try simp only [Act.put, List.setIfInBounds_toArray, List.set_cons_zero, List.set_cons_succ]
  refine wpAnyH_take (i := 1) rfl (by kernel_rfl) (by kernel_rfl) (by kernel_rfl) (fun _ _ _ h => h) (.inl ⟨rfl, fun w7 hw7 => by go_simp; try with_reducible rfl⟩) hHeld ?_
  try simp only [Act.put, List.setIfInBounds_toArray, List.set_cons_zero, List.set_cons_succ]
  refine wpAnyH_take (i := 3) rfl (by kernel_rfl) (by kernel_rfl) (by kernel_rfl) (fun _ _ _ h => h) (.inl ⟨rfl, fun w7 hw7 => by go_simp; try with_reducible rfl⟩) hHeld ?_
  try simp only [Act.put, List.setIfInBounds_toArray, List.set_cons_zero, List.set_cons_succ]
  refine wpAnyH_ready (rs := [2]) (by kernel_rfl) (by simp) ?_
  refine AllReadyH.cons rfl (fun K hK => ?_) AllReadyH.nil
  refine (if_pos (by rfl)).mpr ?_
  go_simp
  refine (K1.out _).mono ?_
  rintro e w2 ⟨rfl, hb2⟩
  go_wp2_with fail
  refine hK.out _ _ (bs_next hHeld hb2) (fun hHeld => ?_)
  clear hK K
  try simp only [Act.put, List.setIfInBounds_toArray, List.set_cons_zero, List.set_cons_succ]
  refine wpAnyH_take (i := 4) rfl (by kernel_rfl) (by kernel_rfl) (by kernel_rfl) (fun _ _ _ h => h) (.inl ⟨rfl, fun w7 hw7 => by go_simp; try with_reducible rfl⟩) hHeld ?_
  try simp only [Act.put, List.setIfInBounds_toArray, List.set_cons_zero, List.set_cons_succ]
  refine wpAnyH_take (i := 5) rfl (by kernel_rfl) (by kernel_rfl) (by kernel_rfl) (fun _ _ _ h => h) (.inl ⟨rfl, fun w7 hw7 => by go_simp; try with_reducible rfl⟩) hHeld ?_
  try simp only [Act.put, List.setIfInBounds_toArray, List.set_cons_zero, List.set_cons_succ]
  refine wpAnyH_take (i := 7) rfl (by kernel_rfl) (by kernel_rfl) (by kernel_rfl) (fun _ _ _ h => h) (.inl ⟨rfl, fun w7 hw7 => by go_simp; try with_reducible rfl⟩) hHeld ?_
  try simp only [Act.put, List.setIfInBounds_toArray, List.set_cons_zero, List.set_cons_succ]
  refine wpAnyH_take (i := 10) rfl (by kernel_rfl) (by kernel_rfl) (by kernel_rfl) (fun _ _ _ h => h) (.inl ⟨rfl, fun w7 hw7 => by go_simp; try with_reducible rfl⟩) hHeld ?_
  try simp only [Act.put, List.setIfInBounds_toArray, List.set_cons_zero, List.set_cons_succ]
  refine wpAnyH_take (i := 6) rfl (by kernel_rfl) (by kernel_rfl) (by kernel_rfl) (fun _ _ _ h => h) (yieldsIf_agg boardT w.heap.size 0 cs.toArray cs.toArray (fun w7 hw7 => hw7.2) HL64.1 HL64.2 rfl _ rfl rfl) hHeld ?_
  try simp only [Act.put, List.setIfInBounds_toArray, List.set_cons_zero, List.set_cons_succ]
  refine wpAnyH_take (i := 9) rfl (by kernel_rfl) (by kernel_rfl) (by kernel_rfl) (fun _ _ _ h => h) (yieldsIf_agg boardT w.heap.size 0 cs.toArray cs.toArray (fun w7 hw7 => hw7.2) HL64.1 HL64.2 rfl _ rfl rfl) hHeld ?_
  try simp only [Act.put, List.setIfInBounds_toArray, List.set_cons_zero, List.set_cons_succ]
  refine wpAnyH_ready (rs := [8]) (by kernel_rfl) (by simp) ?_
  refine AllReadyH.cons rfl (fun K hK => ?_) AllReadyH.nil
  refine (if_pos (by rfl)).mpr ?_
  go_simp
  refine (K2.out _).mono ?_
  rintro e w4 ⟨v4, rfl, ho4, hb4⟩
  go_wp2_with fail
  refine hK.out _ _ (bs_next hHeld hb4) (fun hHeld => ?_)
  clear hK K
  try simp only [Act.put, List.setIfInBounds_toArray, List.set_cons_zero, List.set_cons_succ]
  refine wpAnyH_ready (rs := [11]) (by kernel_rfl) (by simp) ?_
  refine AllReadyH.cons rfl (fun K hK => ?_) AllReadyH.nil
  refine (if_pos (by rfl)).mpr ?_
  go_simp
  refine (K3.out _).mono ?_
  rintro e w5 ⟨v5, rfl, ho5, hb5⟩
  go_wp2_with fail
  refine hK.out _ _ (bs_next hHeld hb5) (fun hHeld => ?_)
  clear hK K
  try simp only [Act.put, List.setIfInBounds_toArray, List.set_cons_zero, List.set_cons_succ]
  refine wpAnyH_ready (rs := [12]) (by kernel_rfl) (by simp) ?_
  refine AllReadyH.cons rfl (fun K hK => ?_) AllReadyH.nil
  refine (if_pos (by rfl)).mpr ?_
  go_simp
  refine (K4.out _ _ _ _ _ (ho4.below hb5) (ho5)).mono ?_
  rintro e w6 ⟨rfl, hb6⟩
  go_wp2_with fail
  refine hK.out _ _ (bs_next hHeld hb6) (fun hHeld => ?_)
  clear hK K
  try simp only [Act.put, List.setIfInBounds_toArray, List.set_cons_zero, List.set_cons_succ]
  refine wpAnyH_take (i := 13) rfl (by kernel_rfl) (by kernel_rfl) (by kernel_rfl) (fun _ _ _ h => h) (.inl ⟨rfl, fun w7 hw7 => by go_simp; try with_reducible rfl⟩) hHeld ?_
  try simp only [Act.put, List.setIfInBounds_toArray, List.set_cons_zero, List.set_cons_succ]
  refine wpAnyH_take (i := 14) rfl (by kernel_rfl) (by kernel_rfl) (by kernel_rfl) (fun _ _ _ h => h) (.inl ⟨rfl, fun w7 hw7 => by go_simp; try with_reducible rfl⟩) hHeld ?_
  try simp only [Act.put, List.setIfInBounds_toArray, List.set_cons_zero, List.set_cons_succ]
  refine wpAnyH_done (by kernel_rfl) ?_ _
  refine NoPanic.normal ?_
  all_goals
    clear K1 K2 K3 K4 GL G1
    have GL := hid hHeld.1
    have G1 := hid hHeld.2
    rw [HCS.out] at G1
    clear hHeld
    generalize cs.toArray = csA at *
    go_wp2
    go_loopw [36] (fun v wr => ∃ j : Nat, j ≤ 2 ∧ v = .int .i64 j ∧ Hid (Below w.heap.size w wr) ∧ Hid (Blk wr w.heap.size 24 (bv l))) (fun v _ => 2 - (intOf v).toNat)
    case atStart => exact ⟨0, by omega, rfl, GL, G1⟩
    case round =>
      obtain ⟨j, hj, rfl, GL, G1⟩ := hrel
      rcases (show j = 0 ∨ j = 1 ∨ j = 2 by omega) with rfl | rfl | rfl
      · have K := hid (bdKing l 0 H8.out)
        have W := hid (rbWhere l (6) H8.out)
        have KD : kingZ l 0 = ((whereK l (6) 64).head?.map Int.ofNat).getD (-1) := rfl
        rw [KD] at K
        clear KD
        rcases hx : whereK l (6) 64 with _ | ⟨y, ys⟩
        · rw [hx] at W K
          rw [show (List.head? ([] : List Nat)).map Int.ofNat = none from rfl, show (none : Option Int).getD (-1) = -1 from rfl] at K
          clear hx
          go_wp2_with (refine ag_load boardT w.heap.size 0 (bv l) (bv l) G1.out (bw_le HL.out) (bw_ex HL.out) rfl _ rfl rfl ?_)
          refine (W.out _).mono ?_
          rintro e w5 ⟨v5, rfl, ho5, hb5⟩
          obtain ⟨A5, c5, rfl⟩ := ho5.shape
          rw [show (iv []).length = 0 from rfl]
          clear ho5
          replace GL := hid (GL.out.trans (hb5.mono GL.out.size))
          replace G1 := hid (G1.out.below hb5 G1.out.lt)
          clear hb5
          go_wp2_with (first
            | (refine ag_load boardT w.heap.size 0 (bv l) (bv l) G1.out (bw_le HL.out) (bw_ex HL.out) rfl _ rfl rfl ?_))
          refine (K.out _).mono ?_
          rintro e w6 ⟨rfl, hb6⟩
          replace GL := hid (GL.out.trans (hb6.mono GL.out.size))
          replace G1 := hid (G1.out.below hb6 G1.out.lt)
          clear hb6
          go_wp2
          go_loopw [55] (fun v wr => ∃ j : Nat, j ≤ 7 ∧ v = .int .i64 j ∧ Hid (Below w.heap.size w wr) ∧ Hid (Blk wr w.heap.size 24 (bv l))) (fun v _ => 7 - (intOf v).toNat)
          case atStart => exact ⟨0, by omega, rfl, GL, G1⟩
          case round =>
            obtain ⟨j, hj, rfl, GL, G1⟩ := hrel
            by_cases hj7 : j < 7
            · have K1 := hid (bdMany l (j : Int) 0 H8.out)
              have K2 := hid (rbMany l (j : Int) 0 H8.out)
              generalize manyZ l (j : Int) 0 = mm at *
              have g1 := G1.out.lt
              go_wp2
              refine up_region (by kernel_rfl) (by kernel_rfl) ?_
              refine wpQuiet_step (fun K hK => ?_)
              refine q_load boardT w.heap.size 0 (bv l) (bv l) (fun w' ⟨n, hn⟩ => by rw [hn]; exact G1.out.below n.below g1) (bw_le HL.out) (bw_ex HL.out) _ rfl rfl rfl (hK _ ?_)
              clear hK K
              quiet_step (fail)
              quiet_step (fail)
              quiet_step ((go_at_call 34; refine (K1.out _).mono ?_; rintro e w7 ⟨rfl, hb7⟩; exact ⟨rfl, Up.next _ hb7 (Up.below _).size⟩))
              refine wpQuiet_step (fun K hK => ?_)
              refine q_load boardT w.heap.size 0 (bv l) (bv l) (fun w' ⟨n, hn⟩ => by rw [hn]; exact G1.out.below n.below g1) (bw_le HL.out) (bw_ex HL.out) _ rfl rfl rfl (hK _ ?_)
              clear hK K
              quiet_step (fail)
              quiet_step (fail)
              quiet_step ((go_at_call 35; refine (K2.out _).mono ?_; rintro e w7 ⟨rfl, hb7⟩; exact ⟨rfl, Up.next _ hb7 (Up.below _).size⟩))
              quiet_step (fail)
              refine wpQuiet_nil ?_
              rintro w8 ⟨n, rfl⟩
              replace GL := hid (GL.out.trans (n.below.mono GL.out.size))
              replace G1 := hid (G1.out.below n.below g1)
              generalize n.world = w5 at *
              clear n g1
              go_wp2
              go_roundw
              case rel => exact ⟨j + 1, by omega, by go_num, GL, G1⟩
              case measure => simp [intOf]; omega
            · obtain rfl : j = 7 := by omega
              go_wp2
              go_roundw
              case rel => exact ⟨1, by omega, by go_num, GL, G1⟩
              case measure => simp [intOf]
        · rw [hx] at W K
          rw [show (List.head? (y :: ys)).map Int.ofNat = some (y : Int) from rfl, show (some (y : Int)).getD (-1) = (y : Int) from rfl] at K
          have hyl : y < 64 := by
            have : y ∈ whereK l (6) 64 := by rw [hx]; simp
            unfold whereK at this
            exact List.mem_range.1 (List.mem_filter.1 this).1
          clear hx
          go_wp2_with (refine ag_load boardT w.heap.size 0 (bv l) (bv l) G1.out (bw_le HL.out) (bw_ex HL.out) rfl _ rfl rfl ?_)
          refine (W.out _).mono ?_
          rintro e w5 ⟨v5, rfl, ho5, hb5⟩
          obtain ⟨g5, c5, rfl, hB5, hn5, hm5, c50⟩ := ho5.cell 0 (by rw [iv_len]; simp)
          have n0 : 0 < (iv (y :: ys)).length := by rw [iv_len]; simp
          rw [show (iv (y :: ys))[0]'n0 = .int .i64 (y : Int) from rfl] at c50
          generalize (iv (y :: ys)).length = n at *
          have d0 : decide ((0 : Int) < (n : Int)) = true := decide_eq_true (by omega)
          clear ho5
          replace GL := hid (GL.out.trans (hb5.mono GL.out.size))
          replace G1 := hid (G1.out.below hb5 G1.out.lt)
          clear hb5
          go_wp2_with (first
            | (refine ag_load boardT w.heap.size 0 (bv l) (bv l) G1.out (bw_le HL.out) (bw_ex HL.out) rfl _ rfl rfl ?_))
          refine (K.out _).mono ?_
          rintro e w6 ⟨rfl, hb6⟩
          replace GL := hid (GL.out.trans (hb6.mono GL.out.size))
          replace G1 := hid (G1.out.below hb6 G1.out.lt)
          clear hb6
          go_wp2
          go_loopw [55] (fun v wr => ∃ j : Nat, j ≤ 7 ∧ v = .int .i64 j ∧ Hid (Below w.heap.size w wr) ∧ Hid (Blk wr w.heap.size 24 (bv l))) (fun v _ => 7 - (intOf v).toNat)
          case atStart => exact ⟨0, by omega, rfl, GL, G1⟩
          case round =>
            obtain ⟨j, hj, rfl, GL, G1⟩ := hrel
            by_cases hj7 : j < 7
            · have K1 := hid (bdMany l (j : Int) 0 H8.out)
              have K2 := hid (rbMany l (j : Int) 0 H8.out)
              generalize manyZ l (j : Int) 0 = mm at *
              have g1 := G1.out.lt
              go_wp2
              refine up_region (by kernel_rfl) (by kernel_rfl) ?_
              refine wpQuiet_step (fun K hK => ?_)
              refine q_load boardT w.heap.size 0 (bv l) (bv l) (fun w' ⟨n, hn⟩ => by rw [hn]; exact G1.out.below n.below g1) (bw_le HL.out) (bw_ex HL.out) _ rfl rfl rfl (hK _ ?_)
              clear hK K
              quiet_step (fail)
              quiet_step (fail)
              quiet_step ((go_at_call 34; refine (K1.out _).mono ?_; rintro e w7 ⟨rfl, hb7⟩; exact ⟨rfl, Up.next _ hb7 (Up.below _).size⟩))
              refine wpQuiet_step (fun K hK => ?_)
              refine q_load boardT w.heap.size 0 (bv l) (bv l) (fun w' ⟨n, hn⟩ => by rw [hn]; exact G1.out.below n.below g1) (bw_le HL.out) (bw_ex HL.out) _ rfl rfl rfl (hK _ ?_)
              clear hK K
              quiet_step (fail)
              quiet_step (fail)
              quiet_step ((go_at_call 35; refine (K2.out _).mono ?_; rintro e w7 ⟨rfl, hb7⟩; exact ⟨rfl, Up.next _ hb7 (Up.below _).size⟩))
              quiet_step (fail)
              refine wpQuiet_nil ?_
              rintro w8 ⟨n, rfl⟩
              replace GL := hid (GL.out.trans (n.below.mono GL.out.size))
              replace G1 := hid (G1.out.below n.below g1)
              generalize n.world = w5 at *
              clear n g1
              go_wp2
              go_roundw
              case rel => exact ⟨j + 1, by omega, by go_num, GL, G1⟩
              case measure => simp [intOf]; omega
            · obtain rfl : j = 7 := by omega
              go_wp2
              go_roundw
              case rel => exact ⟨1, by omega, by go_num, GL, G1⟩
              case measure => simp [intOf]
      · have K := hid (bdKing l 1 H8.out)
        have W := hid (rbWhere l (-6) H8.out)
        have KD : kingZ l 1 = ((whereK l (-6) 64).head?.map Int.ofNat).getD (-1) := rfl
        rw [KD] at K
        clear KD
        rcases hx : whereK l (-6) 64 with _ | ⟨y, ys⟩
        · rw [hx] at W K
          rw [show (List.head? ([] : List Nat)).map Int.ofNat = none from rfl, show (none : Option Int).getD (-1) = -1 from rfl] at K
          clear hx
          go_wp2_with (refine ag_load boardT w.heap.size 0 (bv l) (bv l) G1.out (bw_le HL.out) (bw_ex HL.out) rfl _ rfl rfl ?_)
          refine (W.out _).mono ?_
          rintro e w5 ⟨v5, rfl, ho5, hb5⟩
          obtain ⟨A5, c5, rfl⟩ := ho5.shape
          rw [show (iv []).length = 0 from rfl]
          clear ho5
          replace GL := hid (GL.out.trans (hb5.mono GL.out.size))
          replace G1 := hid (G1.out.below hb5 G1.out.lt)
          clear hb5
          go_wp2_with (first
            | (refine ag_load boardT w.heap.size 0 (bv l) (bv l) G1.out (bw_le HL.out) (bw_ex HL.out) rfl _ rfl rfl ?_))
          refine (K.out _).mono ?_
          rintro e w6 ⟨rfl, hb6⟩
          replace GL := hid (GL.out.trans (hb6.mono GL.out.size))
          replace G1 := hid (G1.out.below hb6 G1.out.lt)
          clear hb6
          go_wp2
          go_loopw [55] (fun v wr => ∃ j : Nat, j ≤ 7 ∧ v = .int .i64 j ∧ Hid (Below w.heap.size w wr) ∧ Hid (Blk wr w.heap.size 24 (bv l))) (fun v _ => 7 - (intOf v).toNat)
          case atStart => exact ⟨0, by omega, rfl, GL, G1⟩
          case round =>
            obtain ⟨j, hj, rfl, GL, G1⟩ := hrel
            by_cases hj7 : j < 7
            · have K1 := hid (bdMany l (j : Int) 1 H8.out)
              have K2 := hid (rbMany l (j : Int) 1 H8.out)
              generalize manyZ l (j : Int) 1 = mm at *
              have g1 := G1.out.lt
              go_wp2
              refine up_region (by kernel_rfl) (by kernel_rfl) ?_
              refine wpQuiet_step (fun K hK => ?_)
              refine q_load boardT w.heap.size 0 (bv l) (bv l) (fun w' ⟨n, hn⟩ => by rw [hn]; exact G1.out.below n.below g1) (bw_le HL.out) (bw_ex HL.out) _ rfl rfl rfl (hK _ ?_)
              clear hK K
              quiet_step (fail)
              quiet_step (fail)
              quiet_step ((go_at_call 34; refine (K1.out _).mono ?_; rintro e w7 ⟨rfl, hb7⟩; exact ⟨rfl, Up.next _ hb7 (Up.below _).size⟩))
              refine wpQuiet_step (fun K hK => ?_)
              refine q_load boardT w.heap.size 0 (bv l) (bv l) (fun w' ⟨n, hn⟩ => by rw [hn]; exact G1.out.below n.below g1) (bw_le HL.out) (bw_ex HL.out) _ rfl rfl rfl (hK _ ?_)
              clear hK K
              quiet_step (fail)
              quiet_step (fail)
              quiet_step ((go_at_call 35; refine (K2.out _).mono ?_; rintro e w7 ⟨rfl, hb7⟩; exact ⟨rfl, Up.next _ hb7 (Up.below _).size⟩))
              quiet_step (fail)
              refine wpQuiet_nil ?_
              rintro w8 ⟨n, rfl⟩
              replace GL := hid (GL.out.trans (n.below.mono GL.out.size))
              replace G1 := hid (G1.out.below n.below g1)
              generalize n.world = w5 at *
              clear n g1
              go_wp2
              go_roundw
              case rel => exact ⟨j + 1, by omega, by go_num, GL, G1⟩
              case measure => simp [intOf]; omega
            · obtain rfl : j = 7 := by omega
              go_wp2
              go_roundw
              case rel => exact ⟨2, by omega, by go_num, GL, G1⟩
              case measure => simp [intOf]
        · rw [hx] at W K
          rw [show (List.head? (y :: ys)).map Int.ofNat = some (y : Int) from rfl, show (some (y : Int)).getD (-1) = (y : Int) from rfl] at K
          have hyl : y < 64 := by
            have : y ∈ whereK l (-6) 64 := by rw [hx]; simp
            unfold whereK at this
            exact List.mem_range.1 (List.mem_filter.1 this).1
          clear hx
          go_wp2_with (refine ag_load boardT w.heap.size 0 (bv l) (bv l) G1.out (bw_le HL.out) (bw_ex HL.out) rfl _ rfl rfl ?_)
          refine (W.out _).mono ?_
          rintro e w5 ⟨v5, rfl, ho5, hb5⟩
          obtain ⟨g5, c5, rfl, hB5, hn5, hm5, c50⟩ := ho5.cell 0 (by rw [iv_len]; simp)
          have n0 : 0 < (iv (y :: ys)).length := by rw [iv_len]; simp
          rw [show (iv (y :: ys))[0]'n0 = .int .i64 (y : Int) from rfl] at c50
          generalize (iv (y :: ys)).length = n at *
          have d0 : decide ((0 : Int) < (n : Int)) = true := decide_eq_true (by omega)
          clear ho5
          replace GL := hid (GL.out.trans (hb5.mono GL.out.size))
          replace G1 := hid (G1.out.below hb5 G1.out.lt)
          clear hb5
          go_wp2_with (first
            | (refine ag_load boardT w.heap.size 0 (bv l) (bv l) G1.out (bw_le HL.out) (bw_ex HL.out) rfl _ rfl rfl ?_))
          refine (K.out _).mono ?_
          rintro e w6 ⟨rfl, hb6⟩
          replace GL := hid (GL.out.trans (hb6.mono GL.out.size))
          replace G1 := hid (G1.out.below hb6 G1.out.lt)
          clear hb6
          go_wp2
          go_loopw [55] (fun v wr => ∃ j : Nat, j ≤ 7 ∧ v = .int .i64 j ∧ Hid (Below w.heap.size w wr) ∧ Hid (Blk wr w.heap.size 24 (bv l))) (fun v _ => 7 - (intOf v).toNat)
          case atStart => exact ⟨0, by omega, rfl, GL, G1⟩
          case round =>
            obtain ⟨j, hj, rfl, GL, G1⟩ := hrel
            by_cases hj7 : j < 7
            · have K1 := hid (bdMany l (j : Int) 1 H8.out)
              have K2 := hid (rbMany l (j : Int) 1 H8.out)
              generalize manyZ l (j : Int) 1 = mm at *
              have g1 := G1.out.lt
              go_wp2
              refine up_region (by kernel_rfl) (by kernel_rfl) ?_
              refine wpQuiet_step (fun K hK => ?_)
              refine q_load boardT w.heap.size 0 (bv l) (bv l) (fun w' ⟨n, hn⟩ => by rw [hn]; exact G1.out.below n.below g1) (bw_le HL.out) (bw_ex HL.out) _ rfl rfl rfl (hK _ ?_)
              clear hK K
              quiet_step (fail)
              quiet_step (fail)
              quiet_step ((go_at_call 34; refine (K1.out _).mono ?_; rintro e w7 ⟨rfl, hb7⟩; exact ⟨rfl, Up.next _ hb7 (Up.below _).size⟩))
              refine wpQuiet_step (fun K hK => ?_)
              refine q_load boardT w.heap.size 0 (bv l) (bv l) (fun w' ⟨n, hn⟩ => by rw [hn]; exact G1.out.below n.below g1) (bw_le HL.out) (bw_ex HL.out) _ rfl rfl rfl (hK _ ?_)
              clear hK K
              quiet_step (fail)
              quiet_step (fail)
              quiet_step ((go_at_call 35; refine (K2.out _).mono ?_; rintro e w7 ⟨rfl, hb7⟩; exact ⟨rfl, Up.next _ hb7 (Up.below _).size⟩))
              quiet_step (fail)
              refine wpQuiet_nil ?_
              rintro w8 ⟨n, rfl⟩
              replace GL := hid (GL.out.trans (n.below.mono GL.out.size))
              replace G1 := hid (G1.out.below n.below g1)
              generalize n.world = w5 at *
              clear n g1
              go_wp2
              go_roundw
              case rel => exact ⟨j + 1, by omega, by go_num, GL, G1⟩
              case measure => simp [intOf]; omega
            · obtain rfl : j = 7 := by omega
              go_wp2
              go_roundw
              case rel => exact ⟨2, by omega, by go_num, GL, G1⟩
              case measure => simp [intOf]
      · have K := hid (bdKing l 2 H8.out)
        have K' := hid (bdKing l (-1) H8.out)
        rw [show kingZ l 2 = -1 from rfl] at K
        rw [show kingZ l (-1) = -1 from rfl] at K'
        go_wp2_with (first
          | (refine ag_load boardT w.heap.size 0 (bv l) (bv l) G1.out (bw_le HL.out) (bw_ex HL.out) rfl _ rfl rfl ?_))
        refine (K.out _).mono ?_
        rintro e w5 ⟨rfl, hb5⟩
        replace GL := hid (GL.out.trans (hb5.mono GL.out.size))
        replace G1 := hid (G1.out.below hb5 G1.out.lt)
        clear hb5
        go_wp2_with (first
          | (refine ag_load boardT w.heap.size 0 (bv l) (bv l) G1.out (bw_le HL.out) (bw_ex HL.out) rfl _ rfl rfl ?_))
        refine (K'.out _).mono ?_
        rintro e w6 ⟨rfl, hb6⟩
        replace GL := hid (GL.out.trans (hb6.mono GL.out.size))
        replace G1 := hid (G1.out.below hb6 G1.out.lt)
        clear hb6
        go_wp2
        go_ret
        exact ⟨rfl, GL.out⟩
theorem walk_BoardAsks (l : List Int) (s m : Int) (h8 : B8 l) (w : World) :
    Calls Try.prog 7 #[.agg (bv l), .int .i64 s, .int .i64 m] w fun e w' => e = .returned (.bool true) ∧ Below w.heap.size w w' := by
  by_cases h : 0 ≤ s ∧ s < 64
  · exact asks_t l s m h8 h.1 h.2 w
  · exact asks_f l s m h8 h w
end Go.Proofs.Ytpgdcpkggmkooaa
