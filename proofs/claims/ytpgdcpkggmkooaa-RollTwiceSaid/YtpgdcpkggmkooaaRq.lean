/- The laws RollWrites, RollTwice in plain words. -/
import Derived.Test.YtpgdcpkggmkooaaRp
import Derived.Test.YtpgdcpkggmkooaaR3w
import Derived.Test.YtpgdcpkggmkooaaR4w
namespace Go.Proofs.Ytpgdcpkggmkooaa
open Go.RowKit
set_option linter.unusedVariables false
set_option linter.unusedSimpArgs false
/-- a board of men, said so by both. -/
def rgR (b : List Int) : Nat → Nat → Bool
  | 0, i => true
  | d + 1, i => if -6 ≤ nt b i 0 ∧ nt b i 0 ≤ 6 then rgR b d (i + 1) else false
theorem rq_right {b : List Int} (h : ∀ i, -128 ≤ nt b i 0 ∧ nt b i 0 ≤ 127) : ∀ (d i k : Nat), i + d = 64 → d < k → i_board_Right.l0 k b i = some (rgR b d i) ∧ i_alfilref03_Right.l0 k b i = some (rgR b d i) := by
  intro d
  induction d with
  | zero =>
    intro i k hd hk
    obtain ⟨k, rfl⟩ : ∃ m, k = m + 1 := ⟨k - 1, by omega⟩
    rw [i_board_Right.l0, i_alfilref03_Right.l0, if_neg (by omega), if_neg (by omega)]
    exact ⟨rfl, rfl⟩
  | succ d ih =>
    intro i k hd hk
    obtain ⟨k, rfl⟩ : ∃ m, k = m + 1 := ⟨k - 1, by omega⟩
    have hv := h i
    obtain ⟨I1, I2⟩ := ih (i + 1) k (by omega) (by omega)
    rw [show ((i + 1 : Nat) : Int) = (i : Int) + 1 by omega] at I1 I2
    refine ⟨?_, ?_⟩
    · rw [i_board_Right.l0, if_pos (by omega), if_pos (show (0 : Int) ≤ i by omega), Int.toNat_natCast, w64 (x := nt b i 0) (by omega) (by omega), w64 (x := (i : Int) + 1) (by omega) (by omega), rgR, I1]
      by_cases h0 : nt b i 0 = 0
      · rw [if_pos h0, if_pos (by omega)]
      · rw [if_neg h0]
        by_cases h6 : -6 ≤ nt b i 0 ∧ nt b i 0 ≤ 6
        · rw [if_pos h6, if_pos (show manB (nt b i 0) = true by unfold manB; exact decide_eq_true ⟨h0, h6.1, h6.2⟩)]
        · rw [if_neg h6, if_neg (show ¬ manB (nt b i 0) = true by unfold manB; rw [decide_eq_true_eq]; omega)]
    · rw [i_alfilref03_Right.l0, if_pos (by omega), if_pos (show (0 : Int) ≤ i by omega), Int.toNat_natCast, w64 (x := nt b i 0) (by omega) (by omega), w64 (x := (i : Int) + 1) (by omega) (by omega), rgR, I2]
      by_cases h0 : nt b i 0 = 0
      · rw [if_pos h0, if_pos (by omega)]
      · rw [if_neg h0]
        by_cases h6 : -6 ≤ nt b i 0 ∧ nt b i 0 ≤ 6
        · rw [if_pos h6, if_neg (show ¬ kindZ (nt b i 0) = 0 by unfold kindZ; rw [if_neg (by omega)]; split <;> omega)]
        · rw [if_neg h6, if_pos (kindZ_out (by omega))]
theorem rq_men {b : List Int} (hl : b.length = 64) : ∀ (d i : Nat), i + d = 64 → rgR b d i = true → ∀ j, i ≤ j → -6 ≤ nt b j 0 ∧ nt b j 0 ≤ 6 := by
  intro d
  induction d with
  | zero => intro i hd _ j hj; rw [nt_out (by omega)]; omega
  | succ d ih =>
    intro i hd h j hj
    rw [rgR] at h
    split at h
    · rename_i h6
      rcases (show j = i ∨ i + 1 ≤ j by omega) with rfl | h'
      · exact h6
      · exact ih (i + 1) (by omega) h j h'
    · cases h
def MenR (b : List Int) : Prop := ∀ i, -6 ≤ nt b i 0 ∧ nt b i 0 ≤ 6
theorem rolls_are {b : List Int} (h : B8 b) {k : Nat} (hk : 3000 < k) : (MenR b ∧ i_roll_Write.f k b = some (rollT b, 0) ∧ i_alfilref05_Write.f k b = some (rollT b, 0)) ∨ (i_roll_Write.f k b = some (⟨#[]⟩, 5) ∧ i_alfilref05_Write.f k b = some (⟨#[]⟩, 5)) := by
  have hb : ∀ i, -128 ≤ nt b i 0 ∧ nt b i 0 ≤ 127 := h.2
  obtain ⟨R1, R2⟩ := rq_right hb 64 0 k (by omega) (by omega)
  rw [show ((0 : Nat) : Int) = 0 from rfl] at R1 R2
  unfold i_roll_Write.f i_alfilref05_Write.f i_board_Right.f i_alfilref03_Right.f
  rw [R1, R2]
  simp only [Option.bind_some]
  cases hr : rgR b 64 0 with
  | true =>
    have hm : MenR b := fun j => rq_men h.1 64 0 (by omega) hr j (by omega)
    left
    refine ⟨hm, ?_, ?_⟩
    · rw [if_pos rfl, half_is hb (.inl rfl) (by omega)]
      simp only [Option.bind_some]
      have s0 := kinds_size b 0 6 (by omega)
      have s1 := kinds_size b 1 6 (by omega)
      have w5 : (⟨#[119, 104, 105, 116, 101]⟩ : ByteArray).size = 5 := rfl
      have w1 : (⟨#[32]⟩ : ByteArray).size = 1 := rfl
      have w6 : (⟨#[98, 108, 97, 99, 107]⟩ : ByteArray).size = 5 := rfl
      rw [if_pos (by omega), if_pos (by rw [ro_size]; omega), if_pos (by rw [ro_size, ro_size]; omega), half_is hb (.inr rfl) (by omega)]
      simp only [Option.bind_some]
      rw [if_pos (by rw [ro_size, ro_size, ro_size]; omega)]
      rfl
    · rw [if_pos rfl]
      exact ref_write hb (by omega)
  | false =>
    right
    rw [if_neg (by decide), if_neg (by decide)]
    exact ⟨rfl, rfl⟩
/-! how a roll ends -/
theorem over_app (u : ByteArray) {v : ByteArray} (h : 0 < v.size) : overB (u ++ v) = overB v := by
  unfold overB
  rw [ro_size, ro_app2 _ _ (by omega), show u.size + v.size - 1 - u.size = v.size - 1 by omega]
theorem over_item {kd s : Nat} (hs : s < 64) : overB (itemT kd s) = true := by
  unfold itemT
  rw [name_b1 hs, ← ro_assoc, over_app _ (by rw [b1_size]; omega)]
  unfold overB
  rw [b1_size, show 1 - 1 = 0 from rfl, b1_bt (by omega)]
  simp; omega
theorem over_sq (b : List Int) (m : Int) {kd : Nat} : ∀ d i, i + d = 64 → (sqT b m kd d i) = ⟨#[]⟩ ∨ 0 < (sqT b m kd d i).size ∧ overB (sqT b m kd d i) = true
  | 0, _, _ => .inl rfl
  | d + 1, i, hi => by
    unfold sqT
    split
    · right
      have hz : 0 < (itemT kd i).size := by unfold itemT; rw [ro_size, ro_size, b1_size]; omega
      rcases over_sq b m (kd := kd) d (i + 1) (by omega) with h | ⟨h1, h2⟩
      · rw [h, ro_nil2]; exact ⟨hz, over_item (by omega)⟩
      · rw [over_app _ h1]; exact ⟨by rw [ro_size]; omega, h2⟩
    · exact over_sq b m d (i + 1) (by omega)
theorem over_kinds (b : List Int) (sd : Int) : ∀ kd, kindsT b sd kd = ⟨#[]⟩ ∨ 0 < (kindsT b sd kd).size ∧ overB (kindsT b sd kd) = true
  | 0 => .inl rfl
  | kd + 1 => by
    rw [kindsT]
    rcases over_kinds b sd kd with h | ⟨h1, h2⟩
    · rw [h, ro_nil2]; exact over_sq b _ 64 0 (by omega)
    · right; rw [over_app _ h1]; exact ⟨by rw [ro_size]; omega, h2⟩
theorem over_roll (b : List Int) : overB (rollT b) = true ∧ 0 < (rollT b).size ∧ (rollT b).size ≤ 4000 := by
  have s0 := kinds_size b 0 6 (by omega)
  have s1 := kinds_size b 1 6 (by omega)
  have w5 : whiteT.size = 5 := rfl
  have w6 : blackT.size = 5 := rfl
  refine ⟨?_, ?_, ?_⟩
  · unfold rollT
    rcases over_kinds b 1 6 with h | ⟨h1, h2⟩
    · rw [h, ro_nil2, over_app _ (by decide)]; decide +kernel
    · rw [over_app _ h1]; exact h2
  · unfold rollT; rw [ro_size, ro_size, ro_size, ro_size, w5]; omega
  · unfold rollT; rw [ro_size, ro_size, ro_size, ro_size, w5, w6, b1_size]; omega
theorem RAt.self (t : ByteArray) : RAt t 0 t := fun j _ => by rw [Nat.zero_add]
theorem read_f (k : Nat) (t : ByteArray) : i_roll_Read.f k t = rdL k t (zL, 68, 0, whiteT, 0, ⟨#[]⟩) 0 := rfl
theorem read_roll {b : List Int} (hl : b.length = 64) (hb : MenR b) {k : Nat} (hk : 5000 < k) : i_roll_Read.f k (rollT b) = some (b, ((rollT b).size : Int), 0) := by
  obtain ⟨h1, h2, h3⟩ := over_roll b
  obtain ⟨mn, f, R⟩ := rd_roll hl hb
  obtain ⟨q, rfl⟩ : ∃ q, k = (q + 1) + (rollT b).size := ⟨k - 1 - (rollT b).size, by omega⟩
  rw [read_f, R (rollT b) 0 (q + 1) (RAt.self _) (by omega) (by omega), Nat.zero_add]
  exact rd_end h2 (by omega) h1
set_option maxRecDepth 100000 in
theorem rq_wakes : i_alfillaw05_wakes.f 20000 = some true := by decide +kernel
theorem read_empty : (i_roll_Read.f 20000 ⟨#[]⟩).isSome = true := by decide +kernel
theorem rollwrites_is {b : List Int} (h : B8 b) : i_alfillaw05_RollWrites.f 20000 b = some true := by
  unfold i_alfillaw05_RollWrites.f
  rw [rq_wakes]
  simp only [Option.bind_some, if_true]
  rcases rolls_are h (k := 20000) (by decide) with ⟨hm, e1, e2⟩ | ⟨e1, e2⟩
  · rw [e1, e2]
    simp only [Option.bind_some, if_true]
    rw [read_roll h.1 hm (by decide)]
    simp
  · rw [e1, e2]
    simp only [Option.bind_some, if_true]
    obtain ⟨x, hx⟩ := Option.isSome_iff_exists.mp read_empty
    rw [hx]
    simp
theorem walk_RollWrites (b : List Int) (h : B8 b) (w : World) : Calls Try.prog 12 #[.agg (bv b)] w fun e w' => e = .returned (.bool true) ∧ Below w.heap.size w w' :=
  i_alfillaw05_RollWrites.calls 20000 b h.1 true w (rollwrites_is h)
theorem let_ext : ∀ q : Fin 6, (⟨#[80, 78, 66, 82, 81, 75]⟩ : ByteArray).extract q.val (q.val + 1) = letterB ((q.val + 1 : Nat) : Int) := by decide +kernel
theorem two_nums {x y : Nat} (hx : x < 8) (hy : y < 8) : strOfNums [97 + (x : Int), 49 + (y : Int)] = B1 (97 + x) ++ B1 (49 + y) := by
  apply ByteArray.ext
  unfold strOfNums
  simp only [List.map_cons, List.map_nil, B1, ByteArray.data_append]
  rw [show (97 + (x : Int)).toNat = 97 + x by omega, show (49 + (y : Int)).toNat = 49 + y by omega]
  rfl
theorem tw_ew {s : Int} (h0 : 0 ≤ s) (h : s ≤ 255) : wrap64 s = s := w64 (by omega) (by omega)
theorem tw_tmod {s m : Int} {a : Nat} (h0 : 0 ≤ s) (h : s % m = (a : Int)) : Int.tmod s m = (a : Int) := by rw [Int.tmod_eq_emod_of_nonneg h0]; exact h
theorem tw_tmod8 {s : Int} {a : Nat} (h0 : 0 ≤ s) (h : s % 64 = (a : Int)) : Int.tmod s 8 = ((a % 8 : Nat) : Int) := by rw [Int.tmod_eq_emod_of_nonneg h0]; omega
theorem tw_tdiv {a : Nat} (h : a < 64) : wrap64 (Int.tdiv (a : Int) 8) = ((a / 8 : Nat) : Int) := by
  rw [Int.tdiv_eq_ediv_of_nonneg (by omega), w64 (by omega) (by omega)]; omega
theorem tw_q {q : Nat} (h : q < 6) : ((q : Int) + 1) % 256 = ((q + 1 : Nat) : Int) := by omega
theorem tw_97 {a : Nat} (h : a < 64) : (97 + ((a % 8 : Nat) : Int)) % 256 = 97 + ((a % 8 : Nat) : Int) := by
  have : a % 8 < 8 := Nat.mod_lt _ (by decide)
  generalize a % 8 = x at *; omega
theorem tw_49 {a : Nat} (h : a < 64) : (49 + ((a / 8 : Nat) : Int)) % 256 = 49 + ((a / 8 : Nat) : Int) := by
  have : a / 8 < 8 := by omega
  generalize a / 8 = x at *; omega
theorem tw_i8 {q : Nat} (h : q < 6) : IntKind.i8.wrap (-(IntKind.i8.wrap ((q + 1 : Nat) : Int))) = -((q + 1 : Nat) : Int) := by rw [wi8 (x := ((q + 1 : Nat) : Int)) (by omega) (by omega), wi8 (by omega) (by omega)]
theorem tw_8 {a : Nat} (h : a < 64) : a % 8 < 8 := Nat.mod_lt _ (by decide)
theorem tw_8' {a : Nat} (h : a < 64) : a / 8 < 8 := by omega
theorem two_item {q a : Nat} (ha : a < 64) (X SP : ByteArray) (hSP : SP = B1 32) : X ++ SP ++ letterB ((q + 1 : Nat) : Int) ++ (B1 (97 + a % 8) ++ B1 (49 + a / 8)) = X ++ itemT (q + 1) a := by
  subst hSP
  unfold itemT
  rw [name_b1 ha]
  simp only [ro_assoc]
set_option maxHeartbeats 4000000 in
theorem rolltwice_is {b : List Int} (h : B8 b) {s kind : Int} (hs0 : 0 ≤ s) (hs : s ≤ 255) (hk0 : 0 ≤ kind) (hk : kind ≤ 255) : i_alfillaw05_RollTwice.f 20000 b s kind = some true := by
  unfold i_alfillaw05_RollTwice.f
  generalize hP : (⟨#[80, 78, 66, 82, 81, 75]⟩ : ByteArray) = P
  generalize hSP : (⟨#[32]⟩ : ByteArray) = SP
  rw [rq_wakes]
  simp only [Option.bind_some, if_true]
  rcases rolls_are h (k := 20000) (by decide) with ⟨hm, e1, e2⟩ | ⟨e1, e2⟩
  · rw [e1]
    obtain ⟨o1, o2, o3⟩ := over_roll b
    obtain ⟨at_, hat, hat2⟩ : ∃ a : Nat, a < 64 ∧ s % 64 = (a : Int) := ⟨(s % 64).toNat, by omega, by omega⟩
    obtain ⟨q, hq, hq2⟩ : ∃ a : Nat, a < 6 ∧ kind % 6 = (a : Int) := ⟨(kind % 6).toNat, by omega, by omega⟩
    rw [tw_ew hs0 hs, tw_tmod hs0 hat2, tw_tmod8 hs0 hat2, tw_tdiv hat, tw_tmod hk0 hq2, tw_q hq, tw_97 hat, tw_49 hat, tw_i8 hq, two_nums (tw_8 hat) (tw_8' hat), Int.toNat_natCast, Int.toNat_natCast, Int.toNat_natCast]
    clear hat2 hq2 hs0 hs hk0 hk
    have hext : P.extract q (q + 1) = letterB ((q + 1 : Nat) : Int) := by rw [← hP]; exact let_ext ⟨q, hq⟩
    rw [hext]
    obtain ⟨c, hc, _, hl, ho⟩ := let_b1 ⟨q + 1, by omega⟩ (by show 0 < q + 1; omega)
    have zi := item_size (kd := q + 1) (s := at_) (by omega) (by omega) hat
    have hu := two_item (q := q) hat (rollT b) SP hSP.symm
    have z32 : SP.size = 1 := by rw [← hSP]; rfl
    have zl : (letterB ((q + 1 : Nat) : Int)).size = 1 := by rw [show letterB ((q + 1 : Nat) : Int) = B1 c from hl, b1_size]
    simp only [Option.bind_some, if_true]
    rw [if_pos (by omega), if_pos (by omega), if_pos (by omega), if_pos (by omega), if_pos (by rw [ro_size, zl]; omega), if_pos (by rw [ro_size, ro_size, ro_size, zl, b1_size, b1_size]; omega), hu]
    obtain ⟨mn, f, R⟩ := rd_roll h.1 hm
    have zu : (rollT b ++ itemT (q + 1) at_).size = (rollT b).size + 4 := by rw [ro_size, zi]
    have A := RAt.self (rollT b ++ itemT (q + 1) at_)
    have hr : ∀ k, 10 ≤ k → i_roll_Read.f (k + 4 + (rollT b).size) (rollT b ++ itemT (q + 1) at_) = rdL (k + 4) (rollT b ++ itemT (q + 1) at_) (b, 82, 1, ⟨#[]⟩, mn, f) (rollT b).size := fun k hk => by
      rw [read_f, R _ 0 (k + 4) A.left (by omega) (by omega), Nat.zero_add]
    obtain ⟨k, hk', hk2⟩ : ∃ k, 11 ≤ k ∧ 20000 = k + 4 + (rollT b).size := ⟨20000 - 4 - (rollT b).size, by omega, by omega⟩
    have AR := A.right
    rw [Nat.zero_add] at AR
    by_cases hz : nt b at_ 0 = 0
    · have hread : i_roll_Read.f 20000 (rollT b ++ itemT (q + 1) at_) = some (b.set at_ (-((q + 1 : Nat) : Int)), ((rollT b ++ itemT (q + 1) at_).size : Int), 0) := by
        rw [hk2, hr k (by omega)]
        have I := rd_item (B := b) (sd := 1) (m := mn) (w := ⟨#[]⟩) (f := f) (kd := q + 1) (s := at_) (by omega) (by omega) hat (.inr rfl) hz (rollT b ++ itemT (q + 1) at_) (rollT b).size k AR (by omega) (by omega)
        rw [zi] at I
        rw [I, ← zu, if_neg (by decide)]
        obtain ⟨k, rfl⟩ : ∃ m, k = m + 1 := ⟨k - 1, by omega⟩
        exact rd_end (by omega) (by omega) (by rw [over_app _ (by omega)]; exact over_item hat)
      rw [hread]
      simp only [Option.bind_some]
      rw [if_pos (by omega), if_pos (by omega), if_pos hz]
      simp
    · have hread : i_roll_Read.f 20000 (rollT b ++ itemT (q + 1) at_) = some (zL, (((rollT b ++ itemT (q + 1) at_).size - 1 : Nat) : Int), 2) := by
        rw [hk2, hr k (by omega)]
        have I := rd_taken (B := b) (sd := 1) (m := mn) (w := ⟨#[]⟩) (f := f) (kd := q + 1) (s := at_) (by omega) (by omega) hat (.inr rfl) hz (t := rollT b ++ itemT (q + 1) at_) (p := (rollT b).size) (k := k) AR (by omega) (by omega)
        rw [zi] at I
        rw [I, zu]
      rw [hread]
      simp only [Option.bind_some]
      rw [if_pos (by omega), if_pos (by omega), if_neg hz, w64 (x := ((rollT b ++ itemT (q + 1) at_).size : Int) - 1) (by omega) (by omega)]
      rw [if_pos trivial, if_pos (by omega)]
      rfl
  · rw [e1]
    simp only [Option.bind_some]
    rw [if_neg (by decide)]
    exact congrArg some (by decide +kernel)
theorem walk_RollTwice (b : List Int) (s kind : Int) (h : B8 b) (hs : (Lit.int .u8 s).wf = true) (hk : (Lit.int .u8 kind).wf = true) (w : World) : Calls Try.prog 13 #[.agg (bv b), .int .u8 s, .int .u8 kind] w fun e w' => e = .returned (.bool true) ∧ Below w.heap.size w w' := by
  have h1 : 0 ≤ s ∧ s ≤ 255 := by simpa [Lit.wf, IntKind.min, IntKind.max, IntKind.signed, IntKind.bits] using hs
  have h2 : 0 ≤ kind ∧ kind ≤ 255 := by simpa [Lit.wf, IntKind.min, IntKind.max, IntKind.signed, IntKind.bits] using hk
  exact i_alfillaw05_RollTwice.calls 20000 b s kind h.1 true w (rolltwice_is h h1.1 h1.2 h2.1 h2.2)
end Go.Proofs.Ytpgdcpkggmkooaa
