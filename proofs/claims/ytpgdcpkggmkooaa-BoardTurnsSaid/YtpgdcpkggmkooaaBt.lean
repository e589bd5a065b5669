/- The reference's Turned, and Same. -/
import Derived.Test.YtpgdcpkggmkooaaBz
namespace Go.Proofs.Ytpgdcpkggmkooaa
open Go.RowKit
theorem find_in {f r : Int} (h0 : 0 ≤ f) (h1 : f < 8) (h2 : 0 ≤ r) (h3 : r < 8) : findZ f r = 8 * r + f := by unfold findZ; rw [if_pos (by omega)]
theorem neg8_sub (x : Int) : neg8 x = IntKind.wrap .i8 (0 - x) := by unfold neg8; rw [Int.zero_sub]
set_option maxRecDepth 10000 in
set_option maxHeartbeats 2000000 in
theorem rbTurned (l : List Int) (hl : l.length = 64) (w : World) :
    Calls Try.prog 27 #[.agg (bv l)] w fun e w' => e = .returned (.agg (bv (turnL l))) ∧ Below w.heap.size w w' := by
  have HL := hid hl
  clear hl
  have k2 := True.intro
  have k3 := True.intro
  go_enter Try.func27, Try.ntmps27
  go_wp2_with (first
    | (refine ag_box (bv l) w.heap.size rfl rfl _ rfl rfl ?_; intro w1 hb1 hB1 hs1)
    | (clear k2; refine ag_alloc boardT (w.heap.size + 1) hs1 rfl rfl ?_; intro w2 hb2 hB2 hs2)
    | (clear k3; refine ag_alloc boardT (w.heap.size + 2) hs2 rfl rfl ?_; intro w3 hb3 hB3 hs3))
  have HLw : Hid (Below w.heap.size w w3) := hid (hb1.trans ((hb2.mono (by omega)).trans (hb3.mono (by omega))))
  have HB1 := hid ((hB1.below hb2 (by omega)).below hb3 (by omega))
  have HB2 := hid (hB2.below hb3 (by omega))
  have HB3 := hid hB3
  clear hb1 hb2 hb3 hB1 hB2 hB3 hs1 hs2 hs3
  go_loopw [4] (fun v wr => ∃ k : Nat, k ≤ 64 ∧ v = .int .i64 k ∧ Hid (Blk wr w.heap.size 24 (bv l)) ∧ Hid (Blk wr (w.heap.size + 1) 24 (bv zL)) ∧ Hid (Blk wr (w.heap.size + 2) 24 (bv (turnK l k))) ∧ Hid (Below w.heap.size w wr)) (fun v _ => 64 - (intOf v).toNat)
  case atStart => exact ⟨0, by omega, rfl, HB1, HB2, by rw [turnK_zero]; exact HB3, HLw⟩
  case round =>
    obtain ⟨k, hk, rfl, G1, G2, G3, GL⟩ := hrel
    by_cases hlt : k < 64
    · have hat0 := at_board w.heap.size 0 k (by omega) (by omega)
      rw [Int.toNat_natCast, Nat.zero_add] at hat0
      have c1 : wr.cell? ⟨w.heap.size, k, none⟩ = some (.int .i8 (l.getD k 0)) := (G1.out.cell k).trans (bv_get l k (by rw [HL.out]; exact hlt))
      have R1 := hid (rFile_in (k : Int) (by omega) (by omega))
      have R2 := hid (rRank_in (k : Int) (by omega) (by omega))
      have R3 := hid (rFind ((k : Int) % 8) (7 - (k : Int) / 8))
      rw [find_in (by omega) (by omega) (by omega) (by omega), show 8 * (7 - (k : Int) / 8) + (k : Int) % 8 = ((flipN k : Nat) : Int) by unfold flipN; omega] at R3
      have hfl := flipN_lt hlt
      have hat := at_board (w.heap.size + 2) 0 (flipN k : Nat) (by omega) (by omega)
      rw [Int.toNat_natCast, Nat.zero_add] at hat
      have c0 : wr.cell? ⟨w.heap.size + 2, flipN k, none⟩ = some (.int .i8 ((turnK l k).getD (flipN k) 0)) := (G3.out.cell _).trans (bv_get _ _ (by rw [turnK_len]; exact hfl))
      have f0 := G3.out.free (flipN k)
      have G3' := hid (G3.out.set (flipN k) (.int .i8 (neg8 (l.getD k 0))))
      rw [bv_set, turnK_step l hlt] at G3'
      have ht := turnK_step l hlt
      have q0 : (0 : Int) ≤ (k : Int) / 8 := by omega
      have q1 : (k : Int) / 8 ≤ 7 := by omega
      generalize flipN k = f at *
      generalize (k : Int) / 8 = kd at *
      generalize (k : Int) % 8 = km at *
      go_wp2_with (first
        | (go_at_call 55; refine (R1.out _).mono ?_; rintro e w' ⟨rfl, rfl⟩)
        | (go_at_call 56; refine (R2.out _).mono ?_; rintro e w' ⟨rfl, rfl⟩)
        | (go_at_call 54; refine (R3.out _).mono ?_; rintro e w' ⟨rfl, rfl⟩))
      go_roundw
      case rel => exact ⟨k + 1, by omega, by go_num, hid (G1.out.far (by simp) _), hid (G2.out.far (by simp) _), G3', hid (GL.out.setCell (by simp) _)⟩
      case measure => simp [intOf]; omega
    · obtain rfl : k = 64 := by omega
      rw [turnK_all] at G3
      have ht := hid (turnL_len l)
      go_wp2_with (first
        | (refine ag_load boardT (w.heap.size + 2) 0 (bv (turnL l)) (bv (turnL l)) G3.out (by rw [bv_size, ht.out]; omega) (by rw [show 0 + 64 = (bv (turnL l)).size by rw [bv_size, ht.out], Array.extract_size]) rfl _ rfl rfl ?_)
        | (refine ag_store boardT (w.heap.size + 1) 0 (bv zL) (bv (turnL l)) (bv (turnL l)) G2.out (by rw [bv_size, ht.out]) (by rw [bv_size]; decide) (bv_one _) (bv_put _ _ rfl ht.out) rfl _ _ rfl rfl rfl ?_; intro w5 ho5 hB5))
      refine bodyPost_ret (v := .agg (bv (turnL l))) (ag_result boardT rfl _ _ _ hB5 (by rw [bv_size, ht.out]) rfl) rfl ⟨rfl, ho5.below GL.out (by omega)⟩
theorem iv_nil {xs : List Nat} (h : iv xs = []) : xs = [] := by
  cases xs with
  | nil => rfl
  | cons => simp [iv] at h
theorem iv_get (xs : List Nat) (k : Nat) (hk : k < xs.length) : (iv xs)[k]? = some (.int .i64 (xs.getD k 0 : Nat)) := by unfold iv; simp [List.getElem?_eq_getElem hk]
theorem own_cell {w : World} {g : Nat} {e : TypeId} {cur : Array Value} {xs : List Nat} (h : Blk w g e cur) (ht : cur.toList.take (iv xs).length = iv xs) (k : Nat) (hk : k < xs.length) : w.cell? ⟨g, k, none⟩ = some (.int .i64 (xs.getD k 0 : Nat)) := by
  rw [h.cell, ← iv_get xs k hk]
  have : (cur.toList.take (iv xs).length)[k]? = (iv xs)[k]? := by rw [ht]
  rw [List.getElem?_take, if_pos (by rw [iv_len]; exact hk), Array.getElem?_toList] at this
  exact this
theorem rSame (xs : List Nat) (hn : xs.length ≤ 1000) (B1 B2 : Nat) (v1 v2 : Value) (w : World) (h1 : Own w B1 3 v1 (iv xs)) (h2 : Own w B2 3 v2 (iv xs)) :
    Calls Try.prog 31 #[v1, v2] w fun e w' => e = .returned (.bool true) ∧ Below w.heap.size w w' := by
  by_cases h0 : xs = []
  · subst h0
    obtain ⟨A1, c1, rfl⟩ := h1.shape
    obtain ⟨A2, c2, rfl⟩ := h2.shape
    rw [show (iv []).length = 0 from rfl]
    clear h1 h2
    go_enter Try.func31, Try.ntmps31
    go_wp2
    go_loop [5] (fun v => v = .int .i64 0) (fun v => 0)
    case atStart => rfl
    case round =>
      subst hrel
      go_wp2
      go_ret
      exact ⟨rfl, Below.refl _ _⟩
  · rcases h1.form with ⟨_, e⟩ | ⟨g1, cap1, cur1, rfl, hB1, hh1, hn1, hm1, hs1, ht1⟩
    · exact absurd (iv_nil e) h0
    rcases h2.form with ⟨_, e⟩ | ⟨g2, cap2, cur2, rfl, hB2, hh2, hn2, hm2, hs2, ht2⟩
    · exact absurd (iv_nil e) h0
    have C1 : Hid (∀ wr, Blk wr g1 3 cur1 → ∀ k, k < xs.length → wr.cell? ⟨g1, k, none⟩ = some (.int .i64 (xs.getD k 0 : Nat))) := hid (fun wr h => own_cell h ht1)
    have C2 : Hid (∀ wr, Blk wr g2 3 cur2 → ∀ k, k < xs.length → wr.cell? ⟨g2, k, none⟩ = some (.int .i64 (xs.getD k 0 : Nat))) := hid (fun wr h => own_cell h ht2)
    have L1 := hh1.lt
    have L2 := hh2.lt
    have G1 := hid hh1
    have G2 := hid hh2
    rw [iv_len] at *
    clear hh1 hh2 hs1 hs2 ht1 ht2 h1 h2 h0 hB1 hB2
    generalize xs.length = n at *
    go_enter Try.func31, Try.ntmps31
    go_wp2
    go_loopw [5] (fun v wr => ∃ k : Nat, k ≤ n ∧ v = .int .i64 k ∧ Hid (Below w.heap.size w wr)) (fun v _ => n - (intOf v).toNat)
    case atStart => exact ⟨0, by omega, rfl, hid (Below.refl _ _)⟩
    case round =>
      obtain ⟨k, hk, rfl, GL⟩ := hrel
      by_cases hlt : k < n
      · have c1 := C1.out wr (G1.out.below GL.out L1) k hlt
        have c2 := C2.out wr (G2.out.below GL.out L2) k hlt
        generalize xs.getD k 0 = x at *
        go_wp2
        go_quiet (fail)
        go_wp2
        go_roundw
        case rel => exact ⟨k + 1, by omega, by go_num, hid (below_drewN GL.out _)⟩
        case measure => simp [intOf]; omega
      · obtain rfl : k = n := by omega
        go_wp2
        go_ret
        exact ⟨rfl, GL.out⟩
end Go.Proofs.Ytpgdcpkggmkooaa
