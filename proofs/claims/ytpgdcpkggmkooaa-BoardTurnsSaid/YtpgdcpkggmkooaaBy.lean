/- The reference's board.Wrong; King, Man, Put, Turned; the waking call. -/
import Derived.Test.YtpgdcpkggmkooaaBx
namespace Go.Proofs.Ytpgdcpkggmkooaa
open Go.RowKit
theorem kind_one {x : Int} : kindZ x = 1 ↔ x = 1 ∨ x = -1 := by
  unfold kindZ
  split
  · omega
  · split <;> omega
theorem rim_yes {l : List Int} (f : Nat) (hf : f < 8) (h : l.getD f 0 = 1 ∨ l.getD f 0 = -1 ∨ l.getD (56 + f) 0 = 1 ∨ l.getD (56 + f) 0 = -1) : rimB l = true := by
  rcases h with h | h | h | h
  · exact rimB_yes f (by omega) ⟨kind_one.2 (.inl h), .inl (by omega)⟩
  · exact rimB_yes f (by omega) ⟨kind_one.2 (.inr h), .inl (by omega)⟩
  · exact rimB_yes (56 + f) (by omega) ⟨kind_one.2 (.inl h), .inr (by omega)⟩
  · exact rimB_yes (56 + f) (by omega) ⟨kind_one.2 (.inr h), .inr (by omega)⟩
def rimOk (l : List Int) (k : Nat) : Prop := ∀ f, f < k → ¬ (l.getD f 0 = 1 ∨ l.getD f 0 = -1 ∨ l.getD (56 + f) 0 = 1 ∨ l.getD (56 + f) 0 = -1)
theorem rim_no {l : List Int} (h : rimOk l 8) : rimB l = false := by
  refine rimB_no (fun i hi ⟨hk, hr⟩ => ?_)
  rw [kind_one] at hk
  rcases hr with hr | hr
  · exact h i (by omega) (hk.elim .inl fun e => .inr (.inl e))
  · exact h (i - 56) (by omega) (by rw [show 56 + (i - 56) = i by omega]; exact hk.elim (fun e => .inr (.inr (.inl e))) fun e => .inr (.inr (.inr e)))
set_option maxRecDepth 10000 in
set_option maxHeartbeats 2000000 in
theorem rbWrong (l : List Int) (h8 : B8 l) (w : World) :
    Calls Try.prog 22 #[.agg (bv l)] w fun e w' => e = .returned (.int .i64 (wrongZ l)) ∧ Below w.heap.size w w' := by
  have HL := hid h8.1
  have HE := hid h8.2
  have H8 := hid h8
  clear h8
  have K1 := hid (rbRight l H8.out)
  have K2 := hid (rbWhere l 6 H8.out)
  have K3 := hid (rbWhere l (-6) H8.out)
  have K5 := hid (rbMany l 0 0 H8.out)
  have K6 := hid (rbMany l 0 1 H8.out)
  have WD : wrongZ l = if okB l = false then 5 else if manyZ l 6 0 ≠ 1 ∨ manyZ l 6 1 ≠ 1 then 6 else if rimB l = true then 7 else if 16 < manyZ l 0 0 ∨ 16 < manyZ l 0 1 then 8 else 0 := rfl
  have Q1 : Hid ((iv (whereK l 6 64)).length = manyZ l 6 0) := hid (by rw [iv_len, (many_king l).1])
  have Q2 : Hid ((iv (whereK l (-6) 64)).length = manyZ l 6 1) := hid (by rw [iv_len, (many_king l).2])
  have RY := hid (@rim_yes l)
  have RN := hid (@rim_no l)
  generalize wrongZ l = wr at *
  generalize manyZ l 6 0 = m1 at *
  generalize manyZ l 6 1 = m2 at *
  generalize manyZ l 0 0 = m3 at *
  generalize manyZ l 0 1 = m4 at *
  generalize rimB l = rm at *
  cases hok : okB l with
  | false =>
    rw [hok] at K1
    have W := hid (WD.trans (if_pos hok))
    clear WD hok
    go_enter Try.func22, Try.ntmps22
    go_wp2_with (first
      | (refine ag_box (bv l) w.heap.size rfl rfl _ rfl rfl ?_; intro w1 hb1 hB1 hs1)
      | (refine ag_load boardT w.heap.size 0 (bv l) (bv l) hB1 (bw_le HL.out) (bw_ex HL.out) rfl _ rfl rfl ?_))
    refine (K1.out _).mono ?_
    rintro e w2 ⟨rfl, hb2⟩
    have GL := hid (hb1.trans (hb2.mono (by omega)))
    have G1 := hid (hB1.below hb2 (by omega))
    clear hb1 hB1 hs1 hb2
    go_wp2_with (first
      | (refine ag_load boardT w.heap.size 0 (bv l) (bv l) G1.out (bw_le HL.out) (bw_ex HL.out) rfl _ rfl rfl ?_))
    go_ret
    exact ⟨rv_int W.out.symm, GL.out⟩
  | true =>
    rw [hok] at K1
    rw [if_neg (by rw [hok]; decide)] at WD
    clear hok
    by_cases h1 : m1 = 1
    · subst h1
      by_cases h2 : m2 = 1
      · subst h2
        rw [if_neg (by omega)] at WD
        have WH := hid WD
        clear WD
        go_enter Try.func22, Try.ntmps22
        go_wp2_with (first
          | (refine ag_box (bv l) w.heap.size rfl rfl _ rfl rfl ?_; intro w1 hb1 hB1 hs1)
          | (refine ag_load boardT w.heap.size 0 (bv l) (bv l) hB1 (bw_le HL.out) (bw_ex HL.out) rfl _ rfl rfl ?_))
        refine (K1.out _).mono ?_
        rintro e w2 ⟨rfl, hb2⟩
        have GL := hid (hb1.trans (hb2.mono (by omega)))
        have G1 := hid (hB1.below hb2 (by omega))
        clear hb1 hB1 hs1 hb2
        go_wp2_with (first
          | (refine ag_load boardT w.heap.size 0 (bv l) (bv l) G1.out (bw_le HL.out) (bw_ex HL.out) rfl _ rfl rfl ?_))
        refine (K2.out _).mono ?_
        rintro e w3 ⟨v3, rfl, ho3, hb3⟩
        obtain ⟨A3, c3, rfl⟩ := ho3.shape
        clear ho3
        rw [Q1.out]
        replace GL := hid (GL.out.trans (hb3.mono GL.out.size))
        replace G1 := hid (G1.out.below hb3 G1.out.lt)
        clear hb3
        go_wp2_with (first
          | (refine ag_load boardT w.heap.size 0 (bv l) (bv l) G1.out (bw_le HL.out) (bw_ex HL.out) rfl _ rfl rfl ?_))
        refine (K3.out _).mono ?_
        rintro e w4 ⟨v4, rfl, ho4, hb4⟩
        obtain ⟨A4, c4, rfl⟩ := ho4.shape
        clear ho4
        rw [Q2.out]
        replace GL := hid (GL.out.trans (hb4.mono GL.out.size))
        replace G1 := hid (G1.out.below hb4 G1.out.lt)
        clear hb4
        go_wp2
        go_loop [3] (fun v => ∃ k : Nat, k ≤ 8 ∧ v = .int .i64 k ∧ Hid (rimOk l k)) (fun v => 8 - (intOf v).toNat)
        case atStart => exact ⟨0, by omega, rfl, hid (fun f hf => by omega)⟩
        case round =>
          obtain ⟨k, hk, rfl, HN⟩ := hrel
          by_cases hlt : k < 8
          · have hat := at_board w.heap.size 0 k (by omega) (by omega)
            rw [Int.toNat_natCast, Nat.zero_add] at hat
            have hat2 := at_board w.heap.size 0 (56 + (k : Int)) (by omega) (by omega)
            rw [show (56 + (k : Int)).toNat = 56 + k by omega, Nat.zero_add] at hat2
            have c1 : w4.cell? ⟨w.heap.size, k, none⟩ = some (.int .i8 (l.getD k 0)) := (G1.out.cell k).trans (bv_get l k (by rw [HL.out]; omega))
            have c2 : w4.cell? ⟨w.heap.size, 56 + k, none⟩ = some (.int .i8 (l.getD (56 + k) 0)) := (G1.out.cell (56 + k)).trans (bv_get l (56 + k) (by rw [HL.out]; omega))
            have yes := RY.out k hlt
            have next : ¬ (l.getD k 0 = 1 ∨ l.getD k 0 = -1 ∨ l.getD (56 + k) 0 = 1 ∨ l.getD (56 + k) 0 = -1) → rimOk l (k + 1) := fun h f hf => by
              rcases (show f < k ∨ f = k by omega) with h' | rfl
              · exact HN.out f h'
              · exact h
            generalize l.getD k 0 = x at *
            generalize l.getD (56 + k) 0 = y at *
            by_cases a1 : x = 1
            · have W : Hid (wr = 7) := hid (WH.out.trans (if_pos (yes (.inl a1))))
              have e0 := beq_t a1
              clear yes next WH
              go_wp2
              go_ret
              exact ⟨rv_int W.out.symm, GL.out⟩
            by_cases a2 : x = -1
            · have W : Hid (wr = 7) := hid (WH.out.trans (if_pos (yes (.inr (.inl a2)))))
              have e0 := beq_f a1
              have e1 := beq_t a2
              clear yes next WH
              go_wp2
              go_ret
              exact ⟨rv_int W.out.symm, GL.out⟩
            by_cases a3 : y = 1
            · have W : Hid (wr = 7) := hid (WH.out.trans (if_pos (yes (.inr (.inr (.inl a3))))))
              have e0 := beq_f a1
              have e1 := beq_f a2
              have e2 := beq_t a3
              clear yes next WH
              go_wp2
              go_ret
              exact ⟨rv_int W.out.symm, GL.out⟩
            by_cases a4 : y = -1
            · have W : Hid (wr = 7) := hid (WH.out.trans (if_pos (yes (.inr (.inr (.inr a4))))))
              have e0 := beq_f a1
              have e1 := beq_f a2
              have e2 := beq_f a3
              have e3 := beq_t a4
              clear yes next WH
              go_wp2
              go_ret
              exact ⟨rv_int W.out.symm, GL.out⟩
            have e1 := beq_f a1
            have e2 := beq_f a2
            have e3 := beq_f a3
            have e4 := beq_f a4
            have N := hid (next (fun h => h.elim a1 (fun h => h.elim a2 (fun h => h.elim a3 a4))))
            clear yes next a1 a2 a3 a4
            go_wp2
            go_round
            case rel => exact ⟨k + 1, by omega, by go_num, N⟩
            case measure => simp [intOf]; omega
          · obtain rfl : k = 8 := by omega
            have R0 := RN.out HN.out
            have WD := WH.out
            rw [if_neg (by rw [R0]; decide)] at WD
            clear R0 WH HN hlt hk
            by_cases h3 : 16 < m3
            · have W := hid (WD.trans (if_pos (.inl h3)))
              have b3 : decide ((16 : Int) < (m3 : Int)) = true := decide_eq_true (by omega)
              clear WD
              go_wp2_with (first
                | (refine ag_load boardT w.heap.size 0 (bv l) (bv l) G1.out (bw_le HL.out) (bw_ex HL.out) rfl _ rfl rfl ?_))
              refine (K5.out _).mono ?_
              rintro e w5 ⟨rfl, hb5⟩
              replace GL := hid (GL.out.trans (hb5.mono GL.out.size))
              replace G1 := hid (G1.out.below hb5 G1.out.lt)
              clear hb5
              go_wp2_with (first
                | (refine ag_load boardT w.heap.size 0 (bv l) (bv l) G1.out (bw_le HL.out) (bw_ex HL.out) rfl _ rfl rfl ?_))
              go_ret
              exact ⟨rv_int W.out.symm, GL.out⟩
            · have b3 : decide ((16 : Int) < (m3 : Int)) = false := decide_eq_false (by omega)
              by_cases h4 : 16 < m4
              · have W := hid (WD.trans (if_pos (.inr h4)))
                have b4 : decide ((16 : Int) < (m4 : Int)) = true := decide_eq_true (by omega)
                clear WD h3
                go_wp2_with (first
                  | (refine ag_load boardT w.heap.size 0 (bv l) (bv l) G1.out (bw_le HL.out) (bw_ex HL.out) rfl _ rfl rfl ?_))
                refine (K5.out _).mono ?_
                rintro e w5 ⟨rfl, hb5⟩
                replace GL := hid (GL.out.trans (hb5.mono GL.out.size))
                replace G1 := hid (G1.out.below hb5 G1.out.lt)
                clear hb5
                go_wp2_with (first
                  | (refine ag_load boardT w.heap.size 0 (bv l) (bv l) G1.out (bw_le HL.out) (bw_ex HL.out) rfl _ rfl rfl ?_))
                refine (K6.out _).mono ?_
                rintro e w6 ⟨rfl, hb6⟩
                replace GL := hid (GL.out.trans (hb6.mono GL.out.size))
                replace G1 := hid (G1.out.below hb6 G1.out.lt)
                clear hb6
                go_wp2_with (first
                  | (refine ag_load boardT w.heap.size 0 (bv l) (bv l) G1.out (bw_le HL.out) (bw_ex HL.out) rfl _ rfl rfl ?_))
                go_ret
                exact ⟨rv_int W.out.symm, GL.out⟩
              · have W := hid (WD.trans (if_neg (by omega)))
                have b4 : decide ((16 : Int) < (m4 : Int)) = false := decide_eq_false (by omega)
                clear WD h3 h4
                go_wp2_with (first
                  | (refine ag_load boardT w.heap.size 0 (bv l) (bv l) G1.out (bw_le HL.out) (bw_ex HL.out) rfl _ rfl rfl ?_))
                refine (K5.out _).mono ?_
                rintro e w5 ⟨rfl, hb5⟩
                replace GL := hid (GL.out.trans (hb5.mono GL.out.size))
                replace G1 := hid (G1.out.below hb5 G1.out.lt)
                clear hb5
                go_wp2_with (first
                  | (refine ag_load boardT w.heap.size 0 (bv l) (bv l) G1.out (bw_le HL.out) (bw_ex HL.out) rfl _ rfl rfl ?_))
                refine (K6.out _).mono ?_
                rintro e w6 ⟨rfl, hb6⟩
                replace GL := hid (GL.out.trans (hb6.mono GL.out.size))
                replace G1 := hid (G1.out.below hb6 G1.out.lt)
                clear hb6
                go_wp2_with (first
                  | (refine ag_load boardT w.heap.size 0 (bv l) (bv l) G1.out (bw_le HL.out) (bw_ex HL.out) rfl _ rfl rfl ?_))
                go_ret
                exact ⟨rv_int W.out.symm, GL.out⟩
      · have W := hid (WD.trans (if_pos (.inr h2)))
        have b2 : (((m2 : Nat) : Int) != 1) = true := bne_t (by omega)
        clear WD h2
        go_enter Try.func22, Try.ntmps22
        go_wp2_with (first
          | (refine ag_box (bv l) w.heap.size rfl rfl _ rfl rfl ?_; intro w1 hb1 hB1 hs1)
          | (refine ag_load boardT w.heap.size 0 (bv l) (bv l) hB1 (bw_le HL.out) (bw_ex HL.out) rfl _ rfl rfl ?_))
        refine (K1.out _).mono ?_
        rintro e w2 ⟨rfl, hb2⟩
        have GL := hid (hb1.trans (hb2.mono (by omega)))
        have G1 := hid (hB1.below hb2 (by omega))
        clear hb1 hB1 hs1 hb2
        go_wp2_with (first
          | (refine ag_load boardT w.heap.size 0 (bv l) (bv l) G1.out (bw_le HL.out) (bw_ex HL.out) rfl _ rfl rfl ?_))
        refine (K2.out _).mono ?_
        rintro e w3 ⟨v3, rfl, ho3, hb3⟩
        obtain ⟨A3, c3, rfl⟩ := ho3.shape
        clear ho3
        rw [Q1.out]
        replace GL := hid (GL.out.trans (hb3.mono GL.out.size))
        replace G1 := hid (G1.out.below hb3 G1.out.lt)
        clear hb3
        go_wp2_with (first
          | (refine ag_load boardT w.heap.size 0 (bv l) (bv l) G1.out (bw_le HL.out) (bw_ex HL.out) rfl _ rfl rfl ?_))
        refine (K3.out _).mono ?_
        rintro e w4 ⟨v4, rfl, ho4, hb4⟩
        obtain ⟨A4, c4, rfl⟩ := ho4.shape
        clear ho4
        rw [Q2.out]
        replace GL := hid (GL.out.trans (hb4.mono GL.out.size))
        replace G1 := hid (G1.out.below hb4 G1.out.lt)
        clear hb4
        go_wp2_with (first
          | (refine ag_load boardT w.heap.size 0 (bv l) (bv l) G1.out (bw_le HL.out) (bw_ex HL.out) rfl _ rfl rfl ?_))
        go_ret
        exact ⟨rv_int W.out.symm, GL.out⟩
    · have W := hid (WD.trans (if_pos (.inl h1)))
      have b1 : (((m1 : Nat) : Int) != 1) = true := bne_t (by omega)
      clear WD h1
      go_enter Try.func22, Try.ntmps22
      go_wp2_with (first
        | (refine ag_box (bv l) w.heap.size rfl rfl _ rfl rfl ?_; intro w1 hb1 hB1 hs1)
        | (refine ag_load boardT w.heap.size 0 (bv l) (bv l) hB1 (bw_le HL.out) (bw_ex HL.out) rfl _ rfl rfl ?_))
      refine (K1.out _).mono ?_
      rintro e w2 ⟨rfl, hb2⟩
      have GL := hid (hb1.trans (hb2.mono (by omega)))
      have G1 := hid (hB1.below hb2 (by omega))
      clear hb1 hB1 hs1 hb2
      go_wp2_with (first
        | (refine ag_load boardT w.heap.size 0 (bv l) (bv l) G1.out (bw_le HL.out) (bw_ex HL.out) rfl _ rfl rfl ?_))
      refine (K2.out _).mono ?_
      rintro e w3 ⟨v3, rfl, ho3, hb3⟩
      obtain ⟨A3, c3, rfl⟩ := ho3.shape
      clear ho3
      rw [Q1.out]
      replace GL := hid (GL.out.trans (hb3.mono GL.out.size))
      replace G1 := hid (G1.out.below hb3 G1.out.lt)
      clear hb3
      go_wp2_with (first
        | (refine ag_load boardT w.heap.size 0 (bv l) (bv l) G1.out (bw_le HL.out) (bw_ex HL.out) rfl _ rfl rfl ?_))
      go_ret
      exact ⟨rv_int W.out.symm, GL.out⟩
set_option maxRecDepth 10000 in
set_option maxHeartbeats 2000000 in
theorem bdKing (l : List Int) (side : Int) (h8 : B8 l) (w : World) :
    Calls Try.prog 33 #[.agg (bv l), .int .i64 side] w fun e w' => e = .returned (.int .i64 (kingZ l side)) ∧ Below w.heap.size w w' := by
  have HL := hid h8.1
  have HE := hid h8.2
  have H8 := hid h8
  clear h8
  have M := hid (mnMake 6 side)
  have KD : kingZ l side = if side = 0 then ((whereK l 6 64).head?.map Int.ofNat).getD (-1) else if side = 1 then ((whereK l (-6) 64).head?.map Int.ofNat).getD (-1) else -1 := rfl
  obtain ⟨m, hm⟩ : ∃ m, m = makeZ 6 side := ⟨_, rfl⟩
  have MD : m = if side = 0 then 6 else if side = 1 then -6 else 0 := by
    rw [hm]; unfold makeZ
    (repeat' split) <;> omega
  rw [← hm] at M
  have HK : (m = 0 → kingZ l side = -1) ∧ (m ≠ 0 → (∀ k, k < 64 → l.getD k 0 = m → (∀ i, i < k → l.getD i 0 ≠ m) → kingZ l side = (k : Int)) ∧ ((∀ i, i < 64 → l.getD i 0 ≠ m) → kingZ l side = -1)) := by
    by_cases h0 : side = 0
    · rw [if_pos h0] at MD KD
      refine ⟨fun h => by omega, fun _ => ⟨fun k hk he hn => ?_, fun hn => ?_⟩⟩
      · rw [KD, ← MD, head_hit hk he hn]; rfl
      · rw [KD, ← MD, head_none hn]; rfl
    · rw [if_neg h0] at MD KD
      by_cases h1 : side = 1
      · rw [if_pos h1] at MD KD
        refine ⟨fun h => by omega, fun _ => ⟨fun k hk he hn => ?_, fun hn => ?_⟩⟩
        · rw [KD, ← MD, head_hit hk he hn]; rfl
        · rw [KD, ← MD, head_none hn]; rfl
      · rw [if_neg h1] at MD KD
        exact ⟨fun _ => KD, fun h => absurd MD h⟩
  clear hm MD KD
  have HK0 := hid HK.1
  have HK1 := hid HK.2
  clear HK
  generalize kingZ l side = kz at *
  go_enter Try.func33, Try.ntmps33
  go_wp2_with (first
    | (refine ag_box (bv l) w.heap.size rfl rfl _ rfl rfl ?_; intro w1 hb1 hB1 hs1)
    | (refine ag_load boardT w.heap.size 0 (bv l) (bv l) hB1 (bw_le HL.out) (bw_ex HL.out) rfl _ rfl rfl ?_)
    | (go_at_call 57; refine (M.out _).mono ?_; rintro e w' ⟨rfl, rfl⟩))
  clear hB1 hs1 M
  go_loop [11] (fun v => ∃ k : Nat, k ≤ 64 ∧ v = .int .i64 k ∧ Hid (m ≠ 0 → ∀ i, i < k → l.getD i 0 ≠ m)) (fun v => 64 - (intOf v).toNat)
  case atStart => exact ⟨0, by omega, rfl, hid (by omega)⟩
  case round =>
    obtain ⟨k, hk, rfl, HN⟩ := hrel
    by_cases hlt : k < 64
    · have hix := ix_board l HL.out k (by omega) (by omega)
      rw [Int.toNat_natCast] at hix
      have x01 := HE.out k
      have hit : m ≠ 0 → l.getD k 0 = m → kz = (k : Int) := fun h0 he => (HK1.out h0).1 k hlt he (HN.out h0)
      have next : (m ≠ 0 → l.getD k 0 ≠ m) → m ≠ 0 → ∀ i, i < k + 1 → l.getD i 0 ≠ m := fun h h0 i hi => by
        rcases (show i < k ∨ i = k by omega) with h' | rfl
        · exact HN.out h0 i h'
        · exact h h0
      generalize l.getD k 0 = x at *
      obtain ⟨x0, x1⟩ := x01
      by_cases h0 : m = 0
      · have b0 := bne_f h0
        have N := hid (next (fun h => absurd h0 h))
        clear next hit h0
        go_wp2
        go_round
        case rel => exact ⟨k + 1, by omega, by go_num, N⟩
        case measure => simp [intOf]; omega
      · have b0 := bne_t h0
        by_cases he : x = m
        · have b1 := beq_t he
          have W := hid (hit h0 he)
          clear next hit h0 he
          go_wp2
          go_ret
          exact ⟨rv_int W.out.symm, hb1⟩
        · have b1 := beq_f he
          have N := hid (next (fun _ => he))
          clear next hit h0 he
          go_wp2
          go_round
          case rel => exact ⟨k + 1, by omega, by go_num, N⟩
          case measure => simp [intOf]; omega
    · have W : Hid (kz = -1) := hid (by
        by_cases h0 : m = 0
        · exact HK0.out h0
        · exact (HK1.out h0).2 (fun i hi => HN.out h0 i (by omega)))
      go_wp2
      go_ret
      exact ⟨rv_int W.out.symm, hb1⟩
theorem firstL_8 : B8 firstL := by
  refine ⟨rfl, fun i => ?_⟩
  rcases Nat.lt_or_ge i 64 with h | h
  · exact (show ∀ i : Fin 64, -128 ≤ firstL.getD i.val 0 ∧ firstL.getD i.val 0 ≤ 127 by decide +kernel) ⟨i, h⟩
  · rw [List.getD_eq_getElem?_getD, List.getElem?_eq_none (by simpa [firstL] using h)]; decide
theorem zL_8 : B8 zL := by
  refine ⟨rfl, fun i => ?_⟩
  rcases Nat.lt_or_ge i 64 with h | h
  · exact (show ∀ i : Fin 64, -128 ≤ zL.getD i.val 0 ∧ zL.getD i.val 0 ≤ 127 by decide +kernel) ⟨i, h⟩
  · rw [List.getD_eq_getElem?_getD, List.getElem?_eq_none (by simpa [zL] using h)]; decide
theorem first_king : kingZ firstL 1 = 60 := by decide +kernel
theorem first_wrong : wrongZ firstL = 0 := by decide +kernel
theorem zL_wrong : wrongZ zL = 6 := by decide +kernel
set_option maxRecDepth 10000 in
set_option maxHeartbeats 2000000 in
theorem bdWakes (w : World) :
    Calls Try.prog 18 #[] w fun e w' => e = .returned (.bool true) ∧ Below w.heap.size w w' := by
  have K1 := hid (bdKing firstL 1 firstL_8)
  have K2 := hid (bdWrong zL zL_8)
  rw [first_king] at K1
  rw [zL_wrong] at K2
  go_enter Try.func18, Try.ntmps18
  go_wp2_with fail
  refine (bdFirst _).mono ?_
  rintro e w1 ⟨rfl, hb1⟩
  have GL := hid hb1
  clear hb1
  go_wp2_with fail
  refine (K1.out _).mono ?_
  rintro e w2 ⟨rfl, hb2⟩
  replace GL := hid (GL.out.trans (hb2.mono GL.out.size))
  clear hb2
  go_wp2_with (refine ag_build (.agg (bv zL)) _ rfl rfl ?_ ?_; (intro ww; simp only [List.map_toArray, List.map_nil]; exact bd_empty ww))
  refine (K2.out _).mono ?_
  rintro e w3 ⟨rfl, hb3⟩
  replace GL := hid (GL.out.trans (hb3.mono GL.out.size))
  clear hb3
  go_wp2
  go_ret
  exact ⟨rfl, GL.out⟩
set_option maxRecDepth 10000 in
set_option maxHeartbeats 2000000 in
theorem walk_BoardWrong (l : List Int) (h8 : B8 l) (w : World) :
    Calls Try.prog 4 #[.agg (bv l)] w fun e w' => e = .returned (.bool true) ∧ Below w.heap.size w w' := by
  have HL := hid h8.1
  have HE := hid h8.2
  have H8 := hid h8
  clear h8
  have K1 := hid (bdRight l H8.out)
  have K2 := hid (rbRight l H8.out)
  have K3 := hid (bdWrong l H8.out)
  have K4 := hid (rbWrong l H8.out)
  generalize okB l = x at *
  generalize wrongZ l = y at *
  go_enter Try.func4, Try.ntmps4
  go_wp2_with (first
    | (refine ag_box (bv l) w.heap.size rfl rfl _ rfl rfl ?_; intro w1 hb1 hB1 hs1)
    | (go_at_call 18; refine (bdWakes _).mono ?_; rintro e w3 ⟨rfl, hb3⟩))
  have GL := hid (hb1.trans (hb3.mono (by omega)))
  have G1 := hid (hB1.below hb3 (by omega))
  clear hb1 hB1 hs1 hb3
  have g1 := G1.out.lt
  refine up_region (by kernel_rfl) (by kernel_rfl) ?_
  refine wpQuiet_step (fun K hK => ?_)
  refine q_load boardT w.heap.size 0 (bv l) (bv l) (fun w' ⟨n, hn⟩ => by rw [hn]; exact G1.out.below n.below g1) (bw_le HL.out) (bw_ex HL.out) _ rfl rfl rfl (hK _ ?_)
  clear hK K
  quiet_step ((go_at_call 19; refine (K1.out _).mono ?_; rintro e w7 ⟨rfl, hb7⟩; exact ⟨rfl, Up.next _ hb7 (Up.below _).size⟩))
  refine wpQuiet_step (fun K hK => ?_)
  refine q_load boardT w.heap.size 0 (bv l) (bv l) (fun w' ⟨n, hn⟩ => by rw [hn]; exact G1.out.below n.below g1) (bw_le HL.out) (bw_ex HL.out) _ rfl rfl rfl (hK _ ?_)
  clear hK K
  quiet_step ((go_at_call 20; refine (K2.out _).mono ?_; rintro e w7 ⟨rfl, hb7⟩; exact ⟨rfl, Up.next _ hb7 (Up.below _).size⟩))
  quiet_step (fail)
  quiet_step (fail)
  refine wpQuiet_step (fun K hK => ?_)
  refine q_load boardT w.heap.size 0 (bv l) (bv l) (fun w' ⟨n, hn⟩ => by rw [hn]; exact G1.out.below n.below g1) (bw_le HL.out) (bw_ex HL.out) _ rfl rfl rfl (hK _ ?_)
  clear hK K
  quiet_step ((go_at_call 21; refine (K3.out _).mono ?_; rintro e w7 ⟨rfl, hb7⟩; exact ⟨rfl, Up.next _ hb7 (Up.below _).size⟩))
  refine wpQuiet_step (fun K hK => ?_)
  refine q_load boardT w.heap.size 0 (bv l) (bv l) (fun w' ⟨n, hn⟩ => by rw [hn]; exact G1.out.below n.below g1) (bw_le HL.out) (bw_ex HL.out) _ rfl rfl rfl (hK _ ?_)
  clear hK K
  quiet_step ((go_at_call 22; refine (K4.out _).mono ?_; rintro e w7 ⟨rfl, hb7⟩; exact ⟨rfl, Up.next _ hb7 (Up.below _).size⟩))
  quiet_step (fail)
  quiet_step (fail)
  quiet_step (fail)
  refine wpQuiet_nil ?_
  rintro w4 ⟨n, rfl⟩
  replace GL := hid (GL.out.trans (n.below.mono GL.out.size))
  generalize n.world = w5 at *
  clear n
  go_wp2
  go_ret
  exact ⟨rv_bool rfl, GL.out⟩
end Go.Proofs.Ytpgdcpkggmkooaa
