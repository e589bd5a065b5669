/- The walks of board.Wrong and of its reference, and of Put, King, Man. -/
import Derived.Test.YtpgdcpkggmkooaaBw
namespace Go.Proofs.Ytpgdcpkggmkooaa
open Go.RowKit
theorem zL_many : manyZ zL 6 0 = 0 := by decide +kernel
set_option maxRecDepth 10000 in
set_option maxHeartbeats 2000000 in
theorem bdWrong (l : List Int) (h8 : B8 l) (w : World) :
    Calls Try.prog 21 #[.agg (bv l)] w fun e w' => e = .returned (.int .i64 (wrongZ l)) ∧ Below w.heap.size w w' := by
  have HL := hid h8.1
  have HE := hid h8.2
  have K1 := hid (bdRight l h8)
  have K2 := hid (bdMany l 6 0 h8)
  have K3 := hid (bdMany l 6 1 h8)
  have K4 := hid (bdRim l h8)
  have K5 := hid (bdMany l 0 0 h8)
  have K6 := hid (bdMany l 0 1 h8)
  have WD : wrongZ l = if okB l = false then 5 else if manyZ l 6 0 ≠ 1 ∨ manyZ l 6 1 ≠ 1 then 6 else if rimB l = true then 7 else if 16 < manyZ l 0 0 ∨ 16 < manyZ l 0 1 then 8 else 0 := rfl
  have hz : l = zL → manyZ l 6 0 = 0 := fun h => by rw [h]; exact zL_many
  clear h8
  generalize wrongZ l = wr at *
  generalize manyZ l 6 0 = m1 at *
  generalize manyZ l 6 1 = m2 at *
  generalize manyZ l 0 0 = m3 at *
  generalize manyZ l 0 1 = m4 at *
  generalize rimB l = rm at *
  cases hok : okB l with
  | false =>
    rw [hok] at K1
    have W := hid (WD.trans (if_pos hok))
    clear WD hz hok
    go_enter Try.func21, Try.ntmps21
    go_wp2_with (first
      | (refine ag_box (bv l) w.heap.size rfl rfl _ rfl rfl ?_; intro w1 hb1 hB1 hs1)
      | (refine ag_load boardT w.heap.size 0 (bv l) (bv l) hB1 (bw_le HL.out) (bw_ex HL.out) rfl _ rfl rfl ?_))
    refine (K1.out _).mono ?_
    rintro e w2 ⟨rfl, hb2⟩
    have GL := hid (hb1.trans (hb2.mono (by omega)))
    have G1 := hid (hB1.below hb2 (by omega))
    clear hb1 hB1 hs1 hb2
    go_wp2_with (first
      | (refine ag_load boardT w.heap.size 0 (bv l) (bv l) G1.out (bw_le HL.out) (bw_ex HL.out) rfl _ rfl rfl ?_))
    go_ret
    exact ⟨rv_int W.out.symm, GL.out⟩
  | true =>
    rw [hok] at K1
    rw [if_neg (by rw [hok]; decide)] at WD
    clear hok
    by_cases hq : l = zL
    · have HQ := hid (decide_eq_true hq)
      have W := hid (WD.trans (if_pos (.inl (by rw [hz hq]; decide))))
      clear WD hz hq
      go_enter Try.func21, Try.ntmps21
      go_wp2_with (first
        | (refine ag_box (bv l) w.heap.size rfl rfl _ rfl rfl ?_; intro w1 hb1 hB1 hs1)
        | (refine ag_load boardT w.heap.size 0 (bv l) (bv l) hB1 (bw_le HL.out) (bw_ex HL.out) rfl _ rfl rfl ?_))
      refine (K1.out _).mono ?_
      rintro e w2 ⟨rfl, hb2⟩
      have GL := hid (hb1.trans (hb2.mono (by omega)))
      have G1 := hid (hB1.below hb2 (by omega))
      clear hb1 hB1 hs1 hb2
      go_wp2_with (first
        | (refine ag_load boardT w.heap.size 0 (bv l) (bv l) G1.out (bw_le HL.out) (bw_ex HL.out) rfl _ rfl rfl ?_)
        | (refine ag_build (.agg (bv zL)) _ rfl rfl ?_ ?_; (intro ww; simp only [List.map_toArray, List.map_nil]; exact bd_empty ww))
        | (refine ag_eql l zL HL.out rfl true HQ.out rfl _ _ _ rfl rfl rfl ?_))
      go_ret
      exact ⟨rv_int W.out.symm, GL.out⟩
    · have HQ := hid (decide_eq_false hq)
      clear hz hq
      by_cases h1 : m1 = 1
      · subst h1
        by_cases h2 : m2 = 1
        · subst h2
          rw [if_neg (by omega)] at WD
          cases rm with
          | true =>
            have W := hid (WD.trans (if_pos rfl))
            clear WD
            go_enter Try.func21, Try.ntmps21
            go_wp2_with (first
              | (refine ag_box (bv l) w.heap.size rfl rfl _ rfl rfl ?_; intro w1 hb1 hB1 hs1)
              | (refine ag_load boardT w.heap.size 0 (bv l) (bv l) hB1 (bw_le HL.out) (bw_ex HL.out) rfl _ rfl rfl ?_))
            refine (K1.out _).mono ?_
            rintro e w2 ⟨rfl, hb2⟩
            have GL := hid (hb1.trans (hb2.mono (by omega)))
            have G1 := hid (hB1.below hb2 (by omega))
            clear hb1 hB1 hs1 hb2
            go_wp2_with (first
              | (refine ag_load boardT w.heap.size 0 (bv l) (bv l) G1.out (bw_le HL.out) (bw_ex HL.out) rfl _ rfl rfl ?_)
              | (refine ag_build (.agg (bv zL)) _ rfl rfl ?_ ?_; (intro ww; simp only [List.map_toArray, List.map_nil]; exact bd_empty ww))
              | (refine ag_eql l zL HL.out rfl false HQ.out rfl _ _ _ rfl rfl rfl ?_))
            refine (K2.out _).mono ?_
            rintro e w3 ⟨rfl, hb3⟩
            replace GL := hid (GL.out.trans (hb3.mono GL.out.size))
            replace G1 := hid (G1.out.below hb3 G1.out.lt)
            clear hb3
            go_wp2_with (first
              | (refine ag_load boardT w.heap.size 0 (bv l) (bv l) G1.out (bw_le HL.out) (bw_ex HL.out) rfl _ rfl rfl ?_)
              | (refine ag_build (.agg (bv zL)) _ rfl rfl ?_ ?_; (intro ww; simp only [List.map_toArray, List.map_nil]; exact bd_empty ww))
              | (refine ag_eql l zL HL.out rfl false HQ.out rfl _ _ _ rfl rfl rfl ?_))
            refine (K3.out _).mono ?_
            rintro e w4 ⟨rfl, hb4⟩
            replace GL := hid (GL.out.trans (hb4.mono GL.out.size))
            replace G1 := hid (G1.out.below hb4 G1.out.lt)
            clear hb4
            go_wp2_with (first
              | (refine ag_load boardT w.heap.size 0 (bv l) (bv l) G1.out (bw_le HL.out) (bw_ex HL.out) rfl _ rfl rfl ?_)
              | (refine ag_build (.agg (bv zL)) _ rfl rfl ?_ ?_; (intro ww; simp only [List.map_toArray, List.map_nil]; exact bd_empty ww))
              | (refine ag_eql l zL HL.out rfl false HQ.out rfl _ _ _ rfl rfl rfl ?_))
            refine (K4.out _).mono ?_
            rintro e w5 ⟨rfl, hb5⟩
            replace GL := hid (GL.out.trans (hb5.mono GL.out.size))
            replace G1 := hid (G1.out.below hb5 G1.out.lt)
            clear hb5
            go_wp2_with (first
              | (refine ag_load boardT w.heap.size 0 (bv l) (bv l) G1.out (bw_le HL.out) (bw_ex HL.out) rfl _ rfl rfl ?_)
              | (refine ag_build (.agg (bv zL)) _ rfl rfl ?_ ?_; (intro ww; simp only [List.map_toArray, List.map_nil]; exact bd_empty ww))
              | (refine ag_eql l zL HL.out rfl false HQ.out rfl _ _ _ rfl rfl rfl ?_))
            go_ret
            exact ⟨rv_int W.out.symm, GL.out⟩
          | false =>
            rw [if_neg (by decide)] at WD
            by_cases h3 : 16 < m3
            · have W := hid (WD.trans (if_pos (.inl h3)))
              have b3 : decide ((16 : Int) < (m3 : Int)) = true := decide_eq_true (by omega)
              clear WD
              go_enter Try.func21, Try.ntmps21
              go_wp2_with (first
                | (refine ag_box (bv l) w.heap.size rfl rfl _ rfl rfl ?_; intro w1 hb1 hB1 hs1)
                | (refine ag_load boardT w.heap.size 0 (bv l) (bv l) hB1 (bw_le HL.out) (bw_ex HL.out) rfl _ rfl rfl ?_))
              refine (K1.out _).mono ?_
              rintro e w2 ⟨rfl, hb2⟩
              have GL := hid (hb1.trans (hb2.mono (by omega)))
              have G1 := hid (hB1.below hb2 (by omega))
              clear hb1 hB1 hs1 hb2
              go_wp2_with (first
                | (refine ag_load boardT w.heap.size 0 (bv l) (bv l) G1.out (bw_le HL.out) (bw_ex HL.out) rfl _ rfl rfl ?_)
                | (refine ag_build (.agg (bv zL)) _ rfl rfl ?_ ?_; (intro ww; simp only [List.map_toArray, List.map_nil]; exact bd_empty ww))
                | (refine ag_eql l zL HL.out rfl false HQ.out rfl _ _ _ rfl rfl rfl ?_))
              refine (K2.out _).mono ?_
              rintro e w3 ⟨rfl, hb3⟩
              replace GL := hid (GL.out.trans (hb3.mono GL.out.size))
              replace G1 := hid (G1.out.below hb3 G1.out.lt)
              clear hb3
              go_wp2_with (first
                | (refine ag_load boardT w.heap.size 0 (bv l) (bv l) G1.out (bw_le HL.out) (bw_ex HL.out) rfl _ rfl rfl ?_)
                | (refine ag_build (.agg (bv zL)) _ rfl rfl ?_ ?_; (intro ww; simp only [List.map_toArray, List.map_nil]; exact bd_empty ww))
                | (refine ag_eql l zL HL.out rfl false HQ.out rfl _ _ _ rfl rfl rfl ?_))
              refine (K3.out _).mono ?_
              rintro e w4 ⟨rfl, hb4⟩
              replace GL := hid (GL.out.trans (hb4.mono GL.out.size))
              replace G1 := hid (G1.out.below hb4 G1.out.lt)
              clear hb4
              go_wp2_with (first
                | (refine ag_load boardT w.heap.size 0 (bv l) (bv l) G1.out (bw_le HL.out) (bw_ex HL.out) rfl _ rfl rfl ?_)
                | (refine ag_build (.agg (bv zL)) _ rfl rfl ?_ ?_; (intro ww; simp only [List.map_toArray, List.map_nil]; exact bd_empty ww))
                | (refine ag_eql l zL HL.out rfl false HQ.out rfl _ _ _ rfl rfl rfl ?_))
              refine (K4.out _).mono ?_
              rintro e w5 ⟨rfl, hb5⟩
              replace GL := hid (GL.out.trans (hb5.mono GL.out.size))
              replace G1 := hid (G1.out.below hb5 G1.out.lt)
              clear hb5
              go_wp2_with (first
                | (refine ag_load boardT w.heap.size 0 (bv l) (bv l) G1.out (bw_le HL.out) (bw_ex HL.out) rfl _ rfl rfl ?_)
                | (refine ag_build (.agg (bv zL)) _ rfl rfl ?_ ?_; (intro ww; simp only [List.map_toArray, List.map_nil]; exact bd_empty ww))
                | (refine ag_eql l zL HL.out rfl false HQ.out rfl _ _ _ rfl rfl rfl ?_))
              refine (K5.out _).mono ?_
              rintro e w6 ⟨rfl, hb6⟩
              replace GL := hid (GL.out.trans (hb6.mono GL.out.size))
              replace G1 := hid (G1.out.below hb6 G1.out.lt)
              clear hb6
              go_wp2_with (first
                | (refine ag_load boardT w.heap.size 0 (bv l) (bv l) G1.out (bw_le HL.out) (bw_ex HL.out) rfl _ rfl rfl ?_)
                | (refine ag_build (.agg (bv zL)) _ rfl rfl ?_ ?_; (intro ww; simp only [List.map_toArray, List.map_nil]; exact bd_empty ww))
                | (refine ag_eql l zL HL.out rfl false HQ.out rfl _ _ _ rfl rfl rfl ?_))
              go_ret
              exact ⟨rv_int W.out.symm, GL.out⟩
            · have b3 : decide ((16 : Int) < (m3 : Int)) = false := decide_eq_false (by omega)
              by_cases h4 : 16 < m4
              · have W := hid (WD.trans (if_pos (.inr h4)))
                have b4 : decide ((16 : Int) < (m4 : Int)) = true := decide_eq_true (by omega)
                clear WD h3
                go_enter Try.func21, Try.ntmps21
                go_wp2_with (first
                  | (refine ag_box (bv l) w.heap.size rfl rfl _ rfl rfl ?_; intro w1 hb1 hB1 hs1)
                  | (refine ag_load boardT w.heap.size 0 (bv l) (bv l) hB1 (bw_le HL.out) (bw_ex HL.out) rfl _ rfl rfl ?_))
                refine (K1.out _).mono ?_
                rintro e w2 ⟨rfl, hb2⟩
                have GL := hid (hb1.trans (hb2.mono (by omega)))
                have G1 := hid (hB1.below hb2 (by omega))
                clear hb1 hB1 hs1 hb2
                go_wp2_with (first
                  | (refine ag_load boardT w.heap.size 0 (bv l) (bv l) G1.out (bw_le HL.out) (bw_ex HL.out) rfl _ rfl rfl ?_)
                  | (refine ag_build (.agg (bv zL)) _ rfl rfl ?_ ?_; (intro ww; simp only [List.map_toArray, List.map_nil]; exact bd_empty ww))
                  | (refine ag_eql l zL HL.out rfl false HQ.out rfl _ _ _ rfl rfl rfl ?_))
                refine (K2.out _).mono ?_
                rintro e w3 ⟨rfl, hb3⟩
                replace GL := hid (GL.out.trans (hb3.mono GL.out.size))
                replace G1 := hid (G1.out.below hb3 G1.out.lt)
                clear hb3
                go_wp2_with (first
                  | (refine ag_load boardT w.heap.size 0 (bv l) (bv l) G1.out (bw_le HL.out) (bw_ex HL.out) rfl _ rfl rfl ?_)
                  | (refine ag_build (.agg (bv zL)) _ rfl rfl ?_ ?_; (intro ww; simp only [List.map_toArray, List.map_nil]; exact bd_empty ww))
                  | (refine ag_eql l zL HL.out rfl false HQ.out rfl _ _ _ rfl rfl rfl ?_))
                refine (K3.out _).mono ?_
                rintro e w4 ⟨rfl, hb4⟩
                replace GL := hid (GL.out.trans (hb4.mono GL.out.size))
                replace G1 := hid (G1.out.below hb4 G1.out.lt)
                clear hb4
                go_wp2_with (first
                  | (refine ag_load boardT w.heap.size 0 (bv l) (bv l) G1.out (bw_le HL.out) (bw_ex HL.out) rfl _ rfl rfl ?_)
                  | (refine ag_build (.agg (bv zL)) _ rfl rfl ?_ ?_; (intro ww; simp only [List.map_toArray, List.map_nil]; exact bd_empty ww))
                  | (refine ag_eql l zL HL.out rfl false HQ.out rfl _ _ _ rfl rfl rfl ?_))
                refine (K4.out _).mono ?_
                rintro e w5 ⟨rfl, hb5⟩
                replace GL := hid (GL.out.trans (hb5.mono GL.out.size))
                replace G1 := hid (G1.out.below hb5 G1.out.lt)
                clear hb5
                go_wp2_with (first
                  | (refine ag_load boardT w.heap.size 0 (bv l) (bv l) G1.out (bw_le HL.out) (bw_ex HL.out) rfl _ rfl rfl ?_)
                  | (refine ag_build (.agg (bv zL)) _ rfl rfl ?_ ?_; (intro ww; simp only [List.map_toArray, List.map_nil]; exact bd_empty ww))
                  | (refine ag_eql l zL HL.out rfl false HQ.out rfl _ _ _ rfl rfl rfl ?_))
                refine (K5.out _).mono ?_
                rintro e w6 ⟨rfl, hb6⟩
                replace GL := hid (GL.out.trans (hb6.mono GL.out.size))
                replace G1 := hid (G1.out.below hb6 G1.out.lt)
                clear hb6
                go_wp2_with (first
                  | (refine ag_load boardT w.heap.size 0 (bv l) (bv l) G1.out (bw_le HL.out) (bw_ex HL.out) rfl _ rfl rfl ?_)
                  | (refine ag_build (.agg (bv zL)) _ rfl rfl ?_ ?_; (intro ww; simp only [List.map_toArray, List.map_nil]; exact bd_empty ww))
                  | (refine ag_eql l zL HL.out rfl false HQ.out rfl _ _ _ rfl rfl rfl ?_))
                refine (K6.out _).mono ?_
                rintro e w7 ⟨rfl, hb7⟩
                replace GL := hid (GL.out.trans (hb7.mono GL.out.size))
                replace G1 := hid (G1.out.below hb7 G1.out.lt)
                clear hb7
                go_wp2_with (first
                  | (refine ag_load boardT w.heap.size 0 (bv l) (bv l) G1.out (bw_le HL.out) (bw_ex HL.out) rfl _ rfl rfl ?_)
                  | (refine ag_build (.agg (bv zL)) _ rfl rfl ?_ ?_; (intro ww; simp only [List.map_toArray, List.map_nil]; exact bd_empty ww))
                  | (refine ag_eql l zL HL.out rfl false HQ.out rfl _ _ _ rfl rfl rfl ?_))
                go_ret
                exact ⟨rv_int W.out.symm, GL.out⟩
              · have W := hid (WD.trans (if_neg (by omega)))
                have b4 : decide ((16 : Int) < (m4 : Int)) = false := decide_eq_false (by omega)
                clear WD h3 h4
                go_enter Try.func21, Try.ntmps21
                go_wp2_with (first
                  | (refine ag_box (bv l) w.heap.size rfl rfl _ rfl rfl ?_; intro w1 hb1 hB1 hs1)
                  | (refine ag_load boardT w.heap.size 0 (bv l) (bv l) hB1 (bw_le HL.out) (bw_ex HL.out) rfl _ rfl rfl ?_))
                refine (K1.out _).mono ?_
                rintro e w2 ⟨rfl, hb2⟩
                have GL := hid (hb1.trans (hb2.mono (by omega)))
                have G1 := hid (hB1.below hb2 (by omega))
                clear hb1 hB1 hs1 hb2
                go_wp2_with (first
                  | (refine ag_load boardT w.heap.size 0 (bv l) (bv l) G1.out (bw_le HL.out) (bw_ex HL.out) rfl _ rfl rfl ?_)
                  | (refine ag_build (.agg (bv zL)) _ rfl rfl ?_ ?_; (intro ww; simp only [List.map_toArray, List.map_nil]; exact bd_empty ww))
                  | (refine ag_eql l zL HL.out rfl false HQ.out rfl _ _ _ rfl rfl rfl ?_))
                refine (K2.out _).mono ?_
                rintro e w3 ⟨rfl, hb3⟩
                replace GL := hid (GL.out.trans (hb3.mono GL.out.size))
                replace G1 := hid (G1.out.below hb3 G1.out.lt)
                clear hb3
                go_wp2_with (first
                  | (refine ag_load boardT w.heap.size 0 (bv l) (bv l) G1.out (bw_le HL.out) (bw_ex HL.out) rfl _ rfl rfl ?_)
                  | (refine ag_build (.agg (bv zL)) _ rfl rfl ?_ ?_; (intro ww; simp only [List.map_toArray, List.map_nil]; exact bd_empty ww))
                  | (refine ag_eql l zL HL.out rfl false HQ.out rfl _ _ _ rfl rfl rfl ?_))
                refine (K3.out _).mono ?_
                rintro e w4 ⟨rfl, hb4⟩
                replace GL := hid (GL.out.trans (hb4.mono GL.out.size))
                replace G1 := hid (G1.out.below hb4 G1.out.lt)
                clear hb4
                go_wp2_with (first
                  | (refine ag_load boardT w.heap.size 0 (bv l) (bv l) G1.out (bw_le HL.out) (bw_ex HL.out) rfl _ rfl rfl ?_)
                  | (refine ag_build (.agg (bv zL)) _ rfl rfl ?_ ?_; (intro ww; simp only [List.map_toArray, List.map_nil]; exact bd_empty ww))
                  | (refine ag_eql l zL HL.out rfl false HQ.out rfl _ _ _ rfl rfl rfl ?_))
                refine (K4.out _).mono ?_
                rintro e w5 ⟨rfl, hb5⟩
                replace GL := hid (GL.out.trans (hb5.mono GL.out.size))
                replace G1 := hid (G1.out.below hb5 G1.out.lt)
                clear hb5
                go_wp2_with (first
                  | (refine ag_load boardT w.heap.size 0 (bv l) (bv l) G1.out (bw_le HL.out) (bw_ex HL.out) rfl _ rfl rfl ?_)
                  | (refine ag_build (.agg (bv zL)) _ rfl rfl ?_ ?_; (intro ww; simp only [List.map_toArray, List.map_nil]; exact bd_empty ww))
                  | (refine ag_eql l zL HL.out rfl false HQ.out rfl _ _ _ rfl rfl rfl ?_))
                refine (K5.out _).mono ?_
                rintro e w6 ⟨rfl, hb6⟩
                replace GL := hid (GL.out.trans (hb6.mono GL.out.size))
                replace G1 := hid (G1.out.below hb6 G1.out.lt)
                clear hb6
                go_wp2_with (first
                  | (refine ag_load boardT w.heap.size 0 (bv l) (bv l) G1.out (bw_le HL.out) (bw_ex HL.out) rfl _ rfl rfl ?_)
                  | (refine ag_build (.agg (bv zL)) _ rfl rfl ?_ ?_; (intro ww; simp only [List.map_toArray, List.map_nil]; exact bd_empty ww))
                  | (refine ag_eql l zL HL.out rfl false HQ.out rfl _ _ _ rfl rfl rfl ?_))
                refine (K6.out _).mono ?_
                rintro e w7 ⟨rfl, hb7⟩
                replace GL := hid (GL.out.trans (hb7.mono GL.out.size))
                replace G1 := hid (G1.out.below hb7 G1.out.lt)
                clear hb7
                go_wp2_with (first
                  | (refine ag_load boardT w.heap.size 0 (bv l) (bv l) G1.out (bw_le HL.out) (bw_ex HL.out) rfl _ rfl rfl ?_)
                  | (refine ag_build (.agg (bv zL)) _ rfl rfl ?_ ?_; (intro ww; simp only [List.map_toArray, List.map_nil]; exact bd_empty ww))
                  | (refine ag_eql l zL HL.out rfl false HQ.out rfl _ _ _ rfl rfl rfl ?_))
                go_ret
                exact ⟨rv_int W.out.symm, GL.out⟩
        · have W := hid (WD.trans (if_pos (.inr h2)))
          have b2 : (((m2 : Nat) : Int) != 1) = true := bne_t (by omega)
          clear WD h2
          go_enter Try.func21, Try.ntmps21
          go_wp2_with (first
            | (refine ag_box (bv l) w.heap.size rfl rfl _ rfl rfl ?_; intro w1 hb1 hB1 hs1)
            | (refine ag_load boardT w.heap.size 0 (bv l) (bv l) hB1 (bw_le HL.out) (bw_ex HL.out) rfl _ rfl rfl ?_))
          refine (K1.out _).mono ?_
          rintro e w2 ⟨rfl, hb2⟩
          have GL := hid (hb1.trans (hb2.mono (by omega)))
          have G1 := hid (hB1.below hb2 (by omega))
          clear hb1 hB1 hs1 hb2
          go_wp2_with (first
            | (refine ag_load boardT w.heap.size 0 (bv l) (bv l) G1.out (bw_le HL.out) (bw_ex HL.out) rfl _ rfl rfl ?_)
            | (refine ag_build (.agg (bv zL)) _ rfl rfl ?_ ?_; (intro ww; simp only [List.map_toArray, List.map_nil]; exact bd_empty ww))
            | (refine ag_eql l zL HL.out rfl false HQ.out rfl _ _ _ rfl rfl rfl ?_))
          refine (K2.out _).mono ?_
          rintro e w3 ⟨rfl, hb3⟩
          replace GL := hid (GL.out.trans (hb3.mono GL.out.size))
          replace G1 := hid (G1.out.below hb3 G1.out.lt)
          clear hb3
          go_wp2_with (first
            | (refine ag_load boardT w.heap.size 0 (bv l) (bv l) G1.out (bw_le HL.out) (bw_ex HL.out) rfl _ rfl rfl ?_)
            | (refine ag_build (.agg (bv zL)) _ rfl rfl ?_ ?_; (intro ww; simp only [List.map_toArray, List.map_nil]; exact bd_empty ww))
            | (refine ag_eql l zL HL.out rfl false HQ.out rfl _ _ _ rfl rfl rfl ?_))
          refine (K3.out _).mono ?_
          rintro e w4 ⟨rfl, hb4⟩
          replace GL := hid (GL.out.trans (hb4.mono GL.out.size))
          replace G1 := hid (G1.out.below hb4 G1.out.lt)
          clear hb4
          go_wp2_with (first
            | (refine ag_load boardT w.heap.size 0 (bv l) (bv l) G1.out (bw_le HL.out) (bw_ex HL.out) rfl _ rfl rfl ?_)
            | (refine ag_build (.agg (bv zL)) _ rfl rfl ?_ ?_; (intro ww; simp only [List.map_toArray, List.map_nil]; exact bd_empty ww))
            | (refine ag_eql l zL HL.out rfl false HQ.out rfl _ _ _ rfl rfl rfl ?_))
          go_ret
          exact ⟨rv_int W.out.symm, GL.out⟩
      · have W := hid (WD.trans (if_pos (.inl h1)))
        have b1 : (((m1 : Nat) : Int) != 1) = true := bne_t (by omega)
        clear WD h1
        go_enter Try.func21, Try.ntmps21
        go_wp2_with (first
          | (refine ag_box (bv l) w.heap.size rfl rfl _ rfl rfl ?_; intro w1 hb1 hB1 hs1)
          | (refine ag_load boardT w.heap.size 0 (bv l) (bv l) hB1 (bw_le HL.out) (bw_ex HL.out) rfl _ rfl rfl ?_))
        refine (K1.out _).mono ?_
        rintro e w2 ⟨rfl, hb2⟩
        have GL := hid (hb1.trans (hb2.mono (by omega)))
        have G1 := hid (hB1.below hb2 (by omega))
        clear hb1 hB1 hs1 hb2
        go_wp2_with (first
          | (refine ag_load boardT w.heap.size 0 (bv l) (bv l) G1.out (bw_le HL.out) (bw_ex HL.out) rfl _ rfl rfl ?_)
          | (refine ag_build (.agg (bv zL)) _ rfl rfl ?_ ?_; (intro ww; simp only [List.map_toArray, List.map_nil]; exact bd_empty ww))
          | (refine ag_eql l zL HL.out rfl false HQ.out rfl _ _ _ rfl rfl rfl ?_))
        refine (K2.out _).mono ?_
        rintro e w3 ⟨rfl, hb3⟩
        replace GL := hid (GL.out.trans (hb3.mono GL.out.size))
        replace G1 := hid (G1.out.below hb3 G1.out.lt)
        clear hb3
        go_wp2_with (first
          | (refine ag_load boardT w.heap.size 0 (bv l) (bv l) G1.out (bw_le HL.out) (bw_ex HL.out) rfl _ rfl rfl ?_)
          | (refine ag_build (.agg (bv zL)) _ rfl rfl ?_ ?_; (intro ww; simp only [List.map_toArray, List.map_nil]; exact bd_empty ww))
          | (refine ag_eql l zL HL.out rfl false HQ.out rfl _ _ _ rfl rfl rfl ?_))
        go_ret
        exact ⟨rv_int W.out.symm, GL.out⟩
end Go.Proofs.Ytpgdcpkggmkooaa
