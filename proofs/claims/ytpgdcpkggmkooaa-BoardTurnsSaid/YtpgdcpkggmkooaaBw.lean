/- The walks of package board and of its reference. -/
import Derived.Test.YtpgdcpkggmkooaaBd
import Derived.Test.YtpgdcpkggmkooaaMn
import Derived.Test.YtpgdcpkggmkooaaEq
import Derived.Test.YtpgdcpkggmkooaaSl
import Derived.Test.YtpgdcpkggmkooaaBq
namespace Go.Proofs.Ytpgdcpkggmkooaa
open Go.RowKit
set_option maxRecDepth 10000 in
set_option maxHeartbeats 2000000 in
theorem bdRight (l : List Int) (h8 : B8 l) (w : World) :
    Calls Try.prog 19 #[.agg (bv l)] w fun e w' => e = .returned (.bool (okB l)) ∧ Below w.heap.size w w' := by
  have HL := hid h8.1
  have HE := hid h8.2
  clear h8
  go_enter Try.func19, Try.ntmps19
  go_wp2_with (first
    | (refine ag_box (bv l) w.heap.size rfl rfl _ rfl rfl ?_; intro w1 hb1 hB1 hs1)
    | (refine ag_load boardT w.heap.size 0 (bv l) (bv l) hB1 (bw_le HL.out) (bw_ex HL.out) rfl _ rfl rfl ?_))
  clear hB1 hs1
  go_loop [6] (fun v => ∃ k : Nat, k ≤ 64 ∧ v = .int .i64 k ∧ Hid (∀ i, i < k → manB (l.getD i 0) = true ∨ l.getD i 0 = 0)) (fun v => 64 - (intOf v).toNat)
  case atStart => exact ⟨0, by omega, rfl, hid (by omega)⟩
  case round =>
    obtain ⟨k, hk, rfl, HN⟩ := hrel
    by_cases hlt : k < 64
    · have next : ∀ y, y = l.getD k 0 → (manB y = true ∨ y = 0) → ∀ i, i < k + 1 → manB (l.getD i 0) = true ∨ l.getD i 0 = 0 := fun y hy h i hi => by
        rcases (show i < k ∨ i = k by omega) with h' | rfl
        · exact HN.out i h'
        · rw [← hy]; exact h
      have hix := ix_board l HL.out k (by omega) (by omega)
      rw [Int.toNat_natCast] at hix
      have x01 := HE.out k
      obtain ⟨x, hxe⟩ : ∃ x, x = l.getD k 0 := ⟨_, rfl⟩
      rw [← hxe] at hix x01
      obtain ⟨x0, x1⟩ := x01
      have HX := hid hxe
      clear hxe
      by_cases hx : x = 0
      · have b := bne_f hx
        have N := hid (next x HX.out (.inr hx))
        clear hx next
        go_wp2
        go_round
        case rel => exact ⟨k + 1, by omega, by go_num, N⟩
        case measure => simp [intOf]; omega
      · have b := bne_t hx
        have R := hid (mnRight x)
        cases hm : manB x with
        | true =>
          rw [hm] at R
          have N := hid (next x HX.out (.inl hm))
          clear hx next hm
          go_wp2_with (go_at_call 50; refine (R.out _).mono ?_; rintro e w' ⟨rfl, rfl⟩)
          go_round
          case rel => exact ⟨k + 1, by omega, by go_num, N⟩
          case measure => simp [intOf]; omega
        | false =>
          rw [hm] at R
          have N := hid (okB_no k hlt (by rw [← HX.out]; exact hm) (by rw [← HX.out]; exact hx))
          clear hx next hm
          go_wp2_with (go_at_call 50; refine (R.out _).mono ?_; rintro e w' ⟨rfl, rfl⟩)
          go_ret
          exact ⟨rv_bool N.out.symm, hb1⟩
    · have HO := hid (okB_yes (fun i hi => HN.out i (by omega)))
      go_wp2
      go_ret
      exact ⟨rv_bool HO.out.symm, hb1⟩
set_option maxRecDepth 10000 in
set_option maxHeartbeats 2000000 in
theorem rbRight (l : List Int) (h8 : B8 l) (w : World) :
    Calls Try.prog 20 #[.agg (bv l)] w fun e w' => e = .returned (.bool (okB l)) ∧ Below w.heap.size w w' := by
  have HL := hid h8.1
  have HE := hid h8.2
  clear h8
  go_enter Try.func20, Try.ntmps20
  go_wp2_with (refine ag_box (bv l) w.heap.size rfl rfl _ rfl rfl ?_; intro w1 hb1 hB1 hs1)
  have G1 := hid hB1
  clear hB1 hs1
  go_loop [3] (fun v => ∃ k : Nat, k ≤ 64 ∧ v = .int .i64 k ∧ Hid (∀ i, i < k → manB (l.getD i 0) = true ∨ l.getD i 0 = 0)) (fun v => 64 - (intOf v).toNat)
  case atStart => exact ⟨0, by omega, rfl, hid (by omega)⟩
  case round =>
    obtain ⟨k, hk, rfl, HN⟩ := hrel
    by_cases hlt : k < 64
    · have next : ∀ y, y = l.getD k 0 → (manB y = true ∨ y = 0) → ∀ i, i < k + 1 → manB (l.getD i 0) = true ∨ l.getD i 0 = 0 := fun y hy h i hi => by
        rcases (show i < k ∨ i = k by omega) with h' | rfl
        · exact HN.out i h'
        · rw [← hy]; exact h
      have hat := at_board w.heap.size 0 k (by omega) (by omega)
      rw [Int.toNat_natCast, Nat.zero_add] at hat
      have c1 : w1.cell? ⟨w.heap.size, k, none⟩ = some (.int .i8 (l.getD k 0)) := (G1.out.cell k).trans (bv_get l k (by rw [HL.out]; exact hlt))
      have x01 := HE.out k
      obtain ⟨x, hxe⟩ : ∃ x, x = l.getD k 0 := ⟨_, rfl⟩
      rw [← hxe] at c1 x01
      obtain ⟨x0, x1⟩ := x01
      have HX := hid hxe
      clear hxe
      by_cases hx : x = 0
      · have b := bne_f hx
        have N := hid (next x HX.out (.inr hx))
        clear hx next
        go_wp2
        go_round
        case rel => exact ⟨k + 1, by omega, by go_num, N⟩
        case measure => simp [intOf]; omega
      · have b := bne_t hx
        have R := hid (rKind x)
        by_cases hm : kindZ x = 0
        · have bk := beq_t hm
          have N := hid (okB_no k hlt (by rw [← HX.out]; cases h : manB x with
                                          | false => rfl
                                          | true => exact absurd hm (manB_kind.1 h)) (by rw [← HX.out]; exact hx))
          clear hx next hm
          generalize kindZ x = kx at *
          go_wp2_with (go_at_call 25; refine (R.out _).mono ?_; rintro e w' ⟨rfl, rfl⟩)
          go_ret
          exact ⟨rv_bool N.out.symm, hb1⟩
        · have bk := beq_f hm
          have N := hid (next x HX.out (.inl (manB_kind.2 hm)))
          clear hx next hm
          generalize kindZ x = kx at *
          go_wp2_with (go_at_call 25; refine (R.out _).mono ?_; rintro e w' ⟨rfl, rfl⟩)
          go_round
          case rel => exact ⟨k + 1, by omega, by go_num, N⟩
          case measure => simp [intOf]; omega
    · have HO := hid (okB_yes (fun i hi => HN.out i (by omega)))
      go_wp2
      go_ret
      exact ⟨rv_bool HO.out.symm, hb1⟩
set_option maxRecDepth 10000 in
set_option maxHeartbeats 2000000 in
theorem bdMany (l : List Int) (kind side : Int) (h8 : B8 l) (w : World) :
    Calls Try.prog 34 #[.agg (bv l), .int .i64 kind, .int .i64 side] w fun e w' => e = .returned (.int .i64 (manyZ l kind side)) ∧ Below w.heap.size w w' := by
  have HL := hid h8.1
  have HE := hid h8.2
  clear h8
  go_enter Try.func34, Try.ntmps34
  go_wp2_with (first
    | (refine ag_box (bv l) w.heap.size rfl rfl _ rfl rfl ?_; intro w1 hb1 hB1 hs1)
    | (refine ag_load boardT w.heap.size 0 (bv l) (bv l) hB1 (bw_le HL.out) (bw_ex HL.out) rfl _ rfl rfl ?_))
  clear hB1 hs1
  go_loop [12, 7] (fun v u => ∃ k : Nat, k ≤ 64 ∧ v = .int .i64 k ∧ u = .int .i64 (cntK l kind side k)) (fun v _ => 64 - (intOf v).toNat)
  case atStart => exact ⟨0, by omega, rfl, rfl⟩
  case round =>
    obtain ⟨k, hk, rfl, rfl⟩ := hrel
    by_cases hlt : k < 64
    · have hc := cntK_le l kind side k
      have suc := hid (cntK_suc l kind side k)
      have hix := ix_board l HL.out k (by omega) (by omega)
      rw [Int.toNat_natCast] at hix
      have x01 := HE.out k
      obtain ⟨x, hxe⟩ : ∃ x, x = l.getD k 0 := ⟨_, rfl⟩
      rw [← hxe] at hix x01
      obtain ⟨x0, x1⟩ := x01
      have HX := hid hxe
      clear hxe
      rw [← HX.out] at suc
      have R := hid (mnRight x)
      have S := hid (mnSide x)
      have K := hid (mnKind x)
      have yes : inB x kind side = true → Hid (cntK l kind side (k + 1) = cntK l kind side k + 1) := fun h => hid (by rw [suc.out, if_pos h])
      have no : inB x kind side = false → Hid (cntK l kind side (k + 1) = cntK l kind side k) := fun h => hid (by rw [suc.out, h]; rfl)
      unfold inB at yes no
      clear suc HX
      generalize cntK l kind side k = n at *
      cases hm : manB x with
      | false =>
        rw [hm] at R
        have N := no (by rw [hm]; rfl)
        clear yes no hm
        go_wp2_with (first
          | (go_at_call 50; refine (R.out _).mono ?_; rintro e w' ⟨rfl, rfl⟩)
          | (go_at_call 58; refine (S.out _).mono ?_; rintro e w' ⟨rfl, rfl⟩)
          | (go_at_call 59; refine (K.out _).mono ?_; rintro e w' ⟨rfl, rfl⟩))
        go_round
        case rel => exact ⟨k + 1, by omega, by go_num, by rw [N.out]⟩
        case measure => simp [intOf]; omega
      | true =>
        rw [hm] at R yes no
        by_cases hs : sideZ x = side
        · have b1 := beq_t hs
          rw [b1] at yes no
          by_cases h0 : kind = 0
          · have b2 := beq_t h0
            have N := yes (by rw [b2]; rfl)
            clear yes no hm hs h0
            generalize sideZ x = sx at *
            go_wp2_with (first
              | (go_at_call 50; refine (R.out _).mono ?_; rintro e w' ⟨rfl, rfl⟩)
              | (go_at_call 58; refine (S.out _).mono ?_; rintro e w' ⟨rfl, rfl⟩)
              | (go_at_call 59; refine (K.out _).mono ?_; rintro e w' ⟨rfl, rfl⟩))
            go_round
            case rel => exact ⟨k + 1, by omega, by go_num, by rw [N.out]; go_num⟩
            case measure => simp [intOf]; omega
          · have b2 := beq_f h0
            by_cases h1 : kindZ x = kind
            · have b3 := beq_t h1
              have N := yes (by rw [b2, b3]; rfl)
              clear yes no hm hs h0 h1
              generalize sideZ x = sx at *
              generalize kindZ x = kx at *
              go_wp2_with (first
                | (go_at_call 50; refine (R.out _).mono ?_; rintro e w' ⟨rfl, rfl⟩)
                | (go_at_call 58; refine (S.out _).mono ?_; rintro e w' ⟨rfl, rfl⟩)
                | (go_at_call 59; refine (K.out _).mono ?_; rintro e w' ⟨rfl, rfl⟩))
              go_round
              case rel => exact ⟨k + 1, by omega, by go_num, by rw [N.out]; go_num⟩
              case measure => simp [intOf]; omega
            · have b3 := beq_f h1
              have N := no (by rw [b2, b3]; rfl)
              clear yes no hm hs h0 h1
              generalize sideZ x = sx at *
              generalize kindZ x = kx at *
              go_wp2_with (first
                | (go_at_call 50; refine (R.out _).mono ?_; rintro e w' ⟨rfl, rfl⟩)
                | (go_at_call 58; refine (S.out _).mono ?_; rintro e w' ⟨rfl, rfl⟩)
                | (go_at_call 59; refine (K.out _).mono ?_; rintro e w' ⟨rfl, rfl⟩))
              go_round
              case rel => exact ⟨k + 1, by omega, by go_num, by rw [N.out]⟩
              case measure => simp [intOf]; omega
        · have b1 := beq_f hs
          have N := no (by rw [b1]; rfl)
          clear yes no hm hs
          generalize sideZ x = sx at *
          go_wp2_with (first
            | (go_at_call 50; refine (R.out _).mono ?_; rintro e w' ⟨rfl, rfl⟩)
            | (go_at_call 58; refine (S.out _).mono ?_; rintro e w' ⟨rfl, rfl⟩)
            | (go_at_call 59; refine (K.out _).mono ?_; rintro e w' ⟨rfl, rfl⟩))
          go_round
          case rel => exact ⟨k + 1, by omega, by go_num, by rw [N.out]⟩
          case measure => simp [intOf]; omega
    · obtain rfl : k = 64 := by omega
      go_wp2
      go_ret
      exact ⟨rfl, hb1⟩
set_option maxRecDepth 10000 in
set_option maxHeartbeats 2000000 in
theorem bdRim (l : List Int) (h8 : B8 l) (w : World) :
    Calls Try.prog 51 #[.agg (bv l)] w fun e w' => e = .returned (.bool (rimB l)) ∧ Below w.heap.size w w' := by
  have HL := hid h8.1
  have HE := hid h8.2
  clear h8
  go_enter Try.func51, Try.ntmps51
  go_wp2_with (first
    | (refine ag_box (bv l) w.heap.size rfl rfl _ rfl rfl ?_; intro w1 hb1 hB1 hs1)
    | (refine ag_load boardT w.heap.size 0 (bv l) (bv l) hB1 (bw_le HL.out) (bw_ex HL.out) rfl _ rfl rfl ?_))
  clear hB1 hs1
  go_loop [7] (fun v => ∃ k : Nat, k ≤ 64 ∧ v = .int .i64 k ∧ Hid (∀ i, i < k → ¬ rimAt l i)) (fun v => 64 - (intOf v).toNat)
  case atStart => exact ⟨0, by omega, rfl, hid (by omega)⟩
  case round =>
    obtain ⟨k, hk, rfl, HN⟩ := hrel
    by_cases hlt : k < 64
    · have next : ¬ rimAt l k → Hid (∀ i, i < k + 1 → ¬ rimAt l i) := fun h => hid (fun i hi => by
        rcases (show i < k ∨ i = k by omega) with h' | rfl
        · exact HN.out i h'
        · exact h)
      have yes := rimB_yes (l := l) k hlt
      have RR := hid (sqRank_in (k : Int) (by omega) (by omega))
      have r0 : 0 ≤ (k : Int) / 8 := by omega
      have r1 : (k : Int) / 8 < 8 := by omega
      have hix := ix_board l HL.out k (by omega) (by omega)
      rw [Int.toNat_natCast] at hix
      have x01 := HE.out k
      obtain ⟨x, hxe⟩ : ∃ x, x = l.getD k 0 := ⟨_, rfl⟩
      rw [← hxe] at hix x01
      obtain ⟨x0, x1⟩ := x01
      have HX := hid hxe
      clear hxe
      have K := hid (mnKind x)
      unfold rimAt at next yes
      rw [← HX.out] at next yes
      clear HX
      obtain ⟨r, hr⟩ : ∃ r : Int, r = (k : Int) / 8 := ⟨_, rfl⟩
      rw [← hr] at next yes RR r0 r1
      clear hr
      by_cases h1 : kindZ x = 1
      · have b1 := beq_t h1
        by_cases h2 : r = 0
        · subst h2
          have N := hid (yes ⟨h1, .inl rfl⟩)
          clear next yes h1
          generalize kindZ x = kx at *
          go_wp2_with (first
            | (go_at_call 71; refine (RR.out _).mono ?_; rintro e w' ⟨rfl, rfl⟩)
            | (go_at_call 59; refine (K.out _).mono ?_; rintro e w' ⟨rfl, rfl⟩))
          go_ret
          exact ⟨rv_bool N.out.symm, hb1⟩
        · have b2 := beq_f h2
          by_cases h3 : r = 7
          · have b3 := beq_t h3
            have N := hid (yes ⟨h1, .inr h3⟩)
            clear next yes h1 h2 h3
            generalize kindZ x = kx at *
            go_wp2_with (first
              | (go_at_call 71; refine (RR.out _).mono ?_; rintro e w' ⟨rfl, rfl⟩)
              | (go_at_call 59; refine (K.out _).mono ?_; rintro e w' ⟨rfl, rfl⟩))
            go_ret
            exact ⟨rv_bool N.out.symm, hb1⟩
          · have b3 := beq_f h3
            have N := next (by omega)
            clear next yes h1 h2 h3
            generalize kindZ x = kx at *
            go_wp2_with (first
              | (go_at_call 71; refine (RR.out _).mono ?_; rintro e w' ⟨rfl, rfl⟩)
              | (go_at_call 59; refine (K.out _).mono ?_; rintro e w' ⟨rfl, rfl⟩))
            go_round
            case rel => exact ⟨k + 1, by omega, by go_num, N⟩
            case measure => simp [intOf]; omega
      · have b1 := beq_f h1
        have N := next (by omega)
        clear next yes h1
        generalize kindZ x = kx at *
        go_wp2_with (first
          | (go_at_call 71; refine (RR.out _).mono ?_; rintro e w' ⟨rfl, rfl⟩)
          | (go_at_call 59; refine (K.out _).mono ?_; rintro e w' ⟨rfl, rfl⟩))
        go_round
        case rel => exact ⟨k + 1, by omega, by go_num, N⟩
        case measure => simp [intOf]; omega
    · have HO := hid (rimB_no (fun i hi => HN.out i (by omega)))
      go_wp2
      go_ret
      exact ⟨rv_bool HO.out.symm, hb1⟩

theorem int_info : (Try.prog.info? 3).map (fun i => (i.zero, i.size, i.bytes)) = some (some (.int .i64 0), 1, 8) := by kernel_rfl
theorem elemInt : ElemT Try.prog 43 3 8 := ⟨Try.underlying43, by
  obtain ⟨i, h1, h2, h3, h4⟩ := info_parts int_info
  exact ⟨i, _, h1, h2, h3, h4, rfl⟩⟩
def iv (xs : List Nat) : List Value := xs.map fun (i : Nat) => Value.int .i64 (i : Int)
theorem iv_len (xs : List Nat) : (iv xs).length = xs.length := by unfold iv; simp
theorem iv_app (xs : List Nat) (k : Nat) : iv (xs ++ [k]) = iv xs ++ [.int .i64 (k : Int)] := by unfold iv; simp
/-- what a call that makes a list of numbers hands back. -/
def Lst (w : World) (xs : List Nat) : Ending → World → Prop := fun e w' => ∃ v, e = .returned v ∧ Own w' w.heap.size 3 v (iv xs) ∧ Below w.heap.size w w'
set_option maxRecDepth 10000 in
set_option maxHeartbeats 2000000 in
theorem bdWhere (l : List Int) (m : Int) (h8 : B8 l) (w : World) :
    Calls Try.prog 29 #[.agg (bv l), .int .i64 m] w (Lst w (whereK l m 64)) := by
  have HL := hid h8.1
  have HE := hid h8.2
  clear h8
  go_enter Try.func29, Try.ntmps29
  go_wp2_with (first
    | (refine ag_box (bv l) w.heap.size rfl rfl _ rfl rfl ?_; intro w1 hb1 hB1 hs1)
    | (refine ag_load boardT w.heap.size 0 (bv l) (bv l) hB1 (bw_le HL.out) (bw_ex HL.out) rfl _ rfl rfl ?_))
  have HLw := hid hb1
  have G1 := hid hB1
  have HS := hid hs1
  clear hb1 hB1 hs1
  go_loopw [5, 9] (fun u v wr => ∃ k : Nat, k ≤ 64 ∧ v = .int .i64 k ∧ Hid (Own wr w.heap.size 3 u (iv (whereK l m k))) ∧ Hid (Below w.heap.size w wr) ∧ Hid (Blk wr w.heap.size 24 (bv l))) (fun _ v _ => 64 - (intOf v).toNat)
  case atStart => exact ⟨0, by omega, rfl, hid (Own.nil _ _ _), HLw, G1⟩
  case round =>
    obtain ⟨k, hk, rfl, HO, GL, G1⟩ := hrel
    rename_i v _
    by_cases hlt : k < 64
    · have suc := whereK_suc l m k
      have hlen := whereK_len l m k
      have hz := GL.out.size
      have hix := ix_board l HL.out k (by omega) (by omega)
      rw [Int.toNat_natCast] at hix
      have x01 := HE.out k
      obtain ⟨x, hxe⟩ : ∃ x, x = l.getD k 0 := ⟨_, rfl⟩
      rw [← hxe] at hix x01
      obtain ⟨x0, x1⟩ := x01
      have HX := hid hxe
      clear hxe
      rw [← HX.out] at suc
      by_cases hm : x = m
      · have b := beq_t hm
        rw [if_pos hm] at suc
        have S := hid (show iv (whereK l m (k + 1)) = iv (whereK l m k) ++ [.int .i64 (k : Int)] by rw [suc, iv_app])
        have LE : (iv (whereK l m k)).length ≤ k := by rw [iv_len]; exact hlen
        clear hm suc hlen HX
        generalize iv (whereK l m k) = xs at *
        go_wp2_with (at_builtin; refine app_one elemInt w.heap.size _ xs (.int .i64 (k : Int)) wr.heap.size 1 (HO.out.alloc _) (Blk.new _ _ _) rfl (by omega) (by unfold maxLen; omega) (by simp; omega) rfl _ _ rfl rfl rfl ?_; intro v2 w2 ho2 hb2 hk2 hi2)
        go_roundw
        case rel => exact ⟨k + 1, by omega, by go_num, hid (by rw [S.out]; exact ho2), hid ((GL.out.alloc (by omega) _).trans hb2), hid (hk2 _ _ _ (by decide) (G1.out.alloc _))⟩
        case measure => simp [intOf]; omega
      · have b := beq_f hm
        rw [if_neg hm, List.append_nil] at suc
        have S := hid suc
        clear hm suc hlen HX
        go_wp2
        go_roundw
        case rel => exact ⟨k + 1, by omega, by go_num, by rw [S.out]; exact HO, GL, G1⟩
        case measure => simp [intOf]; omega
    · obtain rfl : k = 64 := by omega
      go_wp2
      go_ret
      exact ⟨_, rfl, HO.out, GL.out⟩
set_option maxRecDepth 10000 in
set_option maxHeartbeats 2000000 in
theorem rbWhere (l : List Int) (m : Int) (h8 : B8 l) (w : World) :
    Calls Try.prog 32 #[.agg (bv l), .int .i64 m] w (Lst w (whereK l m 64)) := by
  have HL := hid h8.1
  have HE := hid h8.2
  clear h8
  go_enter Try.func32, Try.ntmps32
  go_wp2_with (refine ag_box (bv l) w.heap.size rfl rfl _ rfl rfl ?_; intro w1 hb1 hB1 hs1)
  have HLw := hid hb1
  have G1 := hid hB1
  have HS := hid hs1
  clear hb1 hB1 hs1
  go_loopw [5, 6] (fun u v wr => ∃ k : Nat, k ≤ 64 ∧ v = .int .i64 k ∧ Hid (Own wr w.heap.size 3 u (iv (whereK l m k))) ∧ Hid (Below w.heap.size w wr) ∧ Hid (Blk wr w.heap.size 24 (bv l))) (fun _ v _ => 64 - (intOf v).toNat)
  case atStart => exact ⟨0, by omega, rfl, hid (Own.nil _ _ _), HLw, G1⟩
  case round =>
    obtain ⟨k, hk, rfl, HO, GL, G1⟩ := hrel
    rename_i v _
    by_cases hlt : k < 64
    · have suc := whereK_suc l m k
      have hlen := whereK_len l m k
      have hz := GL.out.size
      have hat := at_board w.heap.size 0 k (by omega) (by omega)
      rw [Int.toNat_natCast, Nat.zero_add] at hat
      have c1 : wr.cell? ⟨w.heap.size, k, none⟩ = some (.int .i8 (l.getD k 0)) := (G1.out.cell k).trans (bv_get l k (by rw [HL.out]; exact hlt))
      have x01 := HE.out k
      obtain ⟨x, hxe⟩ : ∃ x, x = l.getD k 0 := ⟨_, rfl⟩
      rw [← hxe] at c1 x01
      obtain ⟨x0, x1⟩ := x01
      have HX := hid hxe
      clear hxe
      rw [← HX.out] at suc
      by_cases hm : x = m
      · have b := beq_t hm
        rw [if_pos hm] at suc
        have S := hid (show iv (whereK l m (k + 1)) = iv (whereK l m k) ++ [.int .i64 (k : Int)] by rw [suc, iv_app])
        have LE : (iv (whereK l m k)).length ≤ k := by rw [iv_len]; exact hlen
        clear hm suc hlen HX
        generalize iv (whereK l m k) = xs at *
        go_wp2_with (at_builtin; refine app_one elemInt w.heap.size _ xs (.int .i64 (k : Int)) wr.heap.size 1 (HO.out.alloc _) (Blk.new _ _ _) rfl (by omega) (by unfold maxLen; omega) (by simp; omega) rfl _ _ rfl rfl rfl ?_; intro v2 w2 ho2 hb2 hk2 hi2)
        go_roundw
        case rel => exact ⟨k + 1, by omega, by go_num, hid (by rw [S.out]; exact ho2), hid ((GL.out.alloc (by omega) _).trans hb2), hid (hk2 _ _ _ (by decide) (G1.out.alloc _))⟩
        case measure => simp [intOf]; omega
      · have b := beq_f hm
        rw [if_neg hm, List.append_nil] at suc
        have S := hid suc
        clear hm suc hlen HX
        go_wp2
        go_roundw
        case rel => exact ⟨k + 1, by omega, by go_num, by rw [S.out]; exact HO, GL, G1⟩
        case measure => simp [intOf]; omega
    · obtain rfl : k = 64 := by omega
      go_wp2
      go_ret
      exact ⟨_, rfl, HO.out, GL.out⟩

set_option maxRecDepth 10000 in
set_option maxHeartbeats 4000000 in
theorem rbMany (l : List Int) (kind side : Int) (h8 : B8 l) (w : World) :
    Calls Try.prog 35 #[.agg (bv l), .int .i64 kind, .int .i64 side] w fun e w' => e = .returned (.int .i64 (manyZ l kind side)) ∧ Below w.heap.size w w' := by
  have HL := hid h8.1
  have H8 := hid h8
  have HM := hid (many_rsum l kind side)
  clear h8
  go_enter Try.func35, Try.ntmps35
  go_wp2_with (refine ag_box (bv l) w.heap.size rfl rfl _ rfl rfl ?_; intro w1 hb1 hB1 hs1)
  have GL := hid hb1
  have G1 := hid hB1
  clear hb1 hB1 hs1
  go_loopw [8, 7] (fun v u wr => ∃ j : Nat, j ≤ 6 ∧ v = .int .i64 ((j : Int) + 1) ∧ u = .int .i64 (rsum l kind side 64 j) ∧ Hid (Below w.heap.size w wr) ∧ Hid (Blk wr w.heap.size 24 (bv l))) (fun v _ _ => (7 - intOf v).toNat)
  case atStart => exact ⟨0, by omega, rfl, rfl, GL, G1⟩
  case round =>
    obtain ⟨j, hj, rfl, rfl, GL, G1⟩ := hrel
    by_cases hlt : j < 6
    · have hle := rsum_le l kind side 64 j
      have RS : rsum l kind side 64 (j + 1) = rsum l kind side 64 j + (if (side = 0 ∨ side = 1) ∧ (kind = 0 ∨ kind = (j + 1 : Nat)) then (whereK l (sg side (j + 1 : Nat)) 64).length else 0) := rfl
      have hn64 : 64 * j ≤ 384 := by omega
      have hw := whereK_len l (sg side (j + 1 : Nat)) 64
      rw [← iv_len] at hw
      rw [← iv_len (whereK l (sg side (j + 1 : Nat)) 64)] at RS
      by_cases hk : kind = 0 ∨ kind = (j + 1 : Nat)
      · have hskip : (kind != 0 && kind != (j : Int) + 1) = false := by rcases hk with h | h <;> simp [h]
        have hmode : Hid ((kind != 0) = false ∨ ((kind != 0) = true ∧ (kind != (j : Int) + 1) = false)) := hid (by
          by_cases h0 : kind = 0
          · left; exact bne_f h0
          · right; exact ⟨bne_t h0, bne_f (by rcases hk with h | h; exact absurd h h0; rw [h]; omega)⟩)
        by_cases h0 : side = 0
        · subst h0
          rw [if_pos ⟨.inl rfl, hk⟩] at RS
          have R := hid RS
          rw [show sg 0 (j + 1 : Nat) = (j : Int) + 1 by unfold sg; rw [if_pos rfl]; omega] at R hw
          clear RS hk hskip
          rcases hmode.out with b | ⟨b, b'⟩
          all_goals
            go_wp2_with (first
              | (refine ag_load boardT w.heap.size 0 (bv l) (bv l) G1.out (bw_le HL.out) (bw_ex HL.out) rfl _ rfl rfl ?_)
              | (go_at_call 32; refine (rbWhere l ((j : Int) + 1) H8.out _).mono ?_; rintro e w2 ⟨v2, rfl, ho2, hb2⟩; obtain ⟨A2, c2, rfl⟩ := ho2.shape))
            go_roundw
            case rel => exact ⟨j + 1, by omega, by go_num, by rw [R.out]; go_num, hid (GL.out.trans (hb2.mono GL.out.size)), hid (G1.out.below hb2 G1.out.lt)⟩
            case measure => simp [intOf]; omega
        · have b0 := beq_f h0
          by_cases h1 : side = 1
          · subst h1
            rw [if_pos ⟨.inr rfl, hk⟩] at RS
            have R := hid RS
            rw [show sg 1 (j + 1 : Nat) = -((j : Int) + 1) by unfold sg; rw [if_neg (by omega)]; omega] at R hw
            clear RS hk hskip h0
            rcases hmode.out with b | ⟨b, b'⟩
            all_goals
              go_wp2_with (first
                | (refine ag_load boardT w.heap.size 0 (bv l) (bv l) G1.out (bw_le HL.out) (bw_ex HL.out) rfl _ rfl rfl ?_)
                | (go_at_call 32; refine (rbWhere l _ H8.out _).mono ?_; rintro e w2 ⟨v2, rfl, ho2, hb2⟩; obtain ⟨A2, c2, rfl⟩ := ho2.shape))
              go_roundw
              case rel => exact ⟨j + 1, by omega, by go_num, by rw [R.out]; go_num, hid (GL.out.trans (hb2.mono GL.out.size)), hid (G1.out.below hb2 G1.out.lt)⟩
              case measure => simp [intOf]; omega
          · have b1 := beq_f h1
            rw [if_neg (fun h => by omega)] at RS
            have R := hid RS
            clear RS hk hskip h0 h1
            rcases hmode.out with b | ⟨b, b'⟩
            all_goals
              go_wp2
              go_roundw
              case rel => exact ⟨j + 1, by omega, by go_num, by rw [R.out]; rfl, GL, G1⟩
              case measure => simp [intOf]; omega
      · have b0 := bne_t (show kind ≠ 0 by omega)
        have b1 : (kind != (j : Int) + 1) = true := bne_t (by omega)
        rw [if_neg (fun h => hk h.2)] at RS
        have R := hid RS
        clear RS hk
        go_wp2
        go_roundw
        case rel => exact ⟨j + 1, by omega, by go_num, by rw [R.out]; rfl, GL, G1⟩
        case measure => simp [intOf]; omega
    · obtain rfl : j = 6 := by omega
      go_wp2
      go_ret
      exact ⟨rv_int (by rw [HM.out]), GL.out⟩
end Go.Proofs.Ytpgdcpkggmkooaa
