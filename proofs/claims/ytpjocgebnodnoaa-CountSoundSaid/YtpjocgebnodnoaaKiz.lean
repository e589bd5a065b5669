import Derived.Test.YtpjocgebnodnoaaKhz
import Derived.Test.YtpjocgebnodnoaaDwz
namespace Go.Proofs.Ytpjocgebnodnoaa
open Go.RowKit
set_option linter.unusedVariables false
set_option linter.unusedSimpArgs false
set_option maxRecDepth 100000
def ib (x : Bool) : Nat := if x = true then 1 else 0
theorem ib_f {x : Bool} (h : x = false) : ib x = 0 := by rw [h]; rfl
theorem ib_t {x : Bool} (h : x = true) : ib x = 1 := by rw [h]; rfl
def cntN (P : Nat → Int → Bool) (b : List Int) : Nat → Nat
  | 0 => 0
  | n + 1 => cntN P b n + ib (P n (nt b n 0))
def cntP (P : Nat → Int → Bool) (b : List Int) : Nat := cntN P b 64
theorem cntN_ge {P : Nat → Int → Bool} {b : List Int} {i : Nat} {v : Int} : ∀ n, n ≤ i → cntN P (b.set i v) n = cntN P b n
  | 0, _ => rfl
  | n + 1, h => by rw [cntN, cntN, cntN_ge n (by omega), ntA_ne (by omega)]
theorem cntN_set {P : Nat → Int → Bool} {b : List Int} {i : Nat} {v : Int} (hi : i < b.length) : ∀ n, i < n → cntN P (b.set i v) n + ib (P i (nt b i 0)) = cntN P b n + ib (P i v)
  | 0, h => absurd h (by omega)
  | n + 1, h => by
    by_cases e : i = n
    · subst e; rw [cntN, cntN, cntN_ge i (Nat.le_refl _), ntA_eq hi]; omega
    · have := cntN_set (P := P) (v := v) hi n (by omega)
      rw [cntN, cntN, ntA_ne e]; omega
theorem cnt_set {P : Nat → Int → Bool} {b : List Int} {i : Nat} {v : Int} (hb : b.length = 64) (hi : i < 64) : cntP P (b.set i v) + ib (P i (nt b i 0)) = cntP P b + ib (P i v) := cntN_set (by omega) 64 hi
theorem cntN_len (P : Nat → Int → Bool) (b : List Int) : ∀ n, cntN P b n = ((List.range n).filter fun i => P i (nt b i 0)).length
  | 0 => rfl
  | n + 1 => by
    rw [cntN, cntN_len P b n, List.range_succ, List.filter_append, List.length_append, List.filter_cons]
    cases h : P n (nt b n 0) <;> simp [ib]
theorem many_cnt (b : List Int) (k s : Int) : manyZ b k s = cntP (fun _ x => inB x k s) b := by
  rw [cntP, cntN_len]; rfl
def bisP (s : Int) (d : Bool) : Nat → Int → Bool := fun i x => (x == sg s 3) && darkF d (i : Int)
theorem bcnt_cnt (b : List Int) (s : Int) (d : Bool) : bcnt b s d = cntP (bisP s d) b := by
  rw [cntP, cntN_len]
  unfold bcnt whereZ whereK bisP
  rw [List.filter_map, List.length_map, List.filter_filter]
  congr 1
  refine List.filter_congr fun i _ => ?_
  rw [Bool.and_comm]; rfl
theorem inB_0 (k s : Int) : inB 0 k s = false := by unfold inB; rw [show manB 0 = false by decide]; rfl
theorem bis_0 {s : Int} (hs : s = 0 ∨ s = 1) (d : Bool) (i : Nat) : bisP s d i 0 = false := by unfold bisP; rcases hs with rfl | rfl <;> rfl
theorem inB_side {x k s : Int} (h : inB x k s = true) : sideZ x = s := by
  unfold inB at h; simp only [Bool.and_eq_true, beq_iff_eq] at h; exact h.1.2
theorem sg_side {s : Int} (hs : s = 0 ∨ s = 1) : ∀ k : Fin 7, k.val ≠ 0 → sideZ (sg s (k.val : Int)) = s := by rcases hs with rfl | rfl <;> decide
theorem bis_side {s : Int} (hs : s = 0 ∨ s = 1) {d : Bool} {i : Nat} {x : Int} (h : bisP s d i x = true) : sideZ x = s := by
  unfold bisP at h; rw [Bool.and_eq_true, beq_iff_eq] at h; rw [h.1]; exact sg_side hs (3 : Fin 7) (by decide)
structure Cens (b b' : List Int) (s : Int) : Prop where
  two : manyZ b' 2 s ≤ manyZ b 2 s
  four : manyZ b' 4 s ≤ manyZ b 4 s
  five : manyZ b' 5 s ≤ manyZ b 5 s
  dk : bcnt b' s true ≤ bcnt b s true
  lt : bcnt b' s false ≤ bcnt b s false
theorem pos0_mono {x y : Int} (h : x ≤ y) : pos0 x ≤ pos0 y := by unfold pos0; split <;> split <;> omega
theorem prom_mono {b b' : List Int} {s : Int} (h : Cens b b' s) : promZ b' s ≤ promZ b s := by
  have h2 := pos0_mono (show (manyZ b' 2 s : Int) - 2 ≤ (manyZ b 2 s : Int) - 2 by have := h.two; omega)
  have h4 := pos0_mono (show (manyZ b' 4 s : Int) - 2 ≤ (manyZ b 4 s : Int) - 2 by have := h.four; omega)
  have h5 := pos0_mono (show (manyZ b' 5 s : Int) - 1 ≤ (manyZ b 5 s : Int) - 1 by have := h.five; omega)
  have h6 := pos0_mono (show (bcnt b' s true : Int) - 1 ≤ (bcnt b s true : Int) - 1 by have := h.dk; omega)
  have h7 := pos0_mono (show (bcnt b' s false : Int) - 1 ≤ (bcnt b s false : Int) - 1 by have := h.lt; omega)
  unfold promZ men3; omega
theorem prom_one {b b' : List Int} {s : Int} (h : (manyZ b' 2 s : Int) - manyZ b 2 s + ((manyZ b' 4 s : Int) - manyZ b 4 s) + ((manyZ b' 5 s : Int) - manyZ b 5 s) + ((bcnt b' s true : Int) - bcnt b s true) + ((bcnt b' s false : Int) - bcnt b s false) ≤ 1)
    (h2 : manyZ b 2 s ≤ manyZ b' 2 s) (h4 : manyZ b 4 s ≤ manyZ b' 4 s) (h5 : manyZ b 5 s ≤ manyZ b' 5 s) (h6 : bcnt b s true ≤ bcnt b' s true) (h7 : bcnt b s false ≤ bcnt b' s false) : promZ b' s ≤ promZ b s + 1 := by
  have key : ∀ (x y c : Int), x ≤ y → pos0 (y - c) ≤ pos0 (x - c) + (y - x) := by intro x y c h; unfold pos0; split <;> split <;> omega
  have a2 := key (manyZ b 2 s) (manyZ b' 2 s) 2 (by omega)
  have a4 := key (manyZ b 4 s) (manyZ b' 4 s) 2 (by omega)
  have a5 := key (manyZ b 5 s) (manyZ b' 5 s) 1 (by omega)
  have a6 := key (bcnt b s true) (bcnt b' s true) 1 (by omega)
  have a7 := key (bcnt b s false) (bcnt b' s false) 1 (by omega)
  unfold promZ men3; omega
def MI (b : List Int) (s : Int) : Prop := ∃ ps, Fit s ps ∧ (∀ i : Int, i ∈ ps.map (·.1) ↔ (0 ≤ i ∧ i < 64 ∧ nt b i.toNat 0 = sg s 1)) ∧ (ps.map (·.1)).Nodup ∧ cost ps ≤ 16 - (manyZ b 0 (1 - s) : Int)
theorem where_nodup (b : List Int) (m : Int) : (whereZ b m).Nodup := by
  unfold whereZ whereK
  have h : List.Pairwise (fun a c : Nat => a ≠ c) ((List.range 64).filter fun i => b.getD i 0 == m) := List.Pairwise.filter _ List.nodup_range
  exact List.pairwise_map.2 (List.Pairwise.imp (fun h e => h (Int.ofNat.inj e)) h)
theorem where_mem {b : List Int} {m i : Int} : i ∈ whereZ b m ↔ (0 ≤ i ∧ i < 64 ∧ nt b i.toNat 0 = m) := by
  unfold whereZ whereK
  constructor
  · intro h
    obtain ⟨n, hn, rfl⟩ := List.mem_map.1 h
    have h1 := List.mem_filter.1 hn
    have h2 := List.mem_range.1 h1.1
    refine ⟨by simp, by simp; omega, ?_⟩
    have := h1.2; unfold nt; simpa using this
  · rintro ⟨h0, h1, h2⟩
    refine List.mem_map.2 ⟨i.toNat, List.mem_filter.2 ⟨List.mem_range.2 (by omega), ?_⟩, by simp; omega⟩
    unfold nt at h2; simpa using h2
theorem mi_best {b : List Int} {s v : Int} (h : MI b s) (hb : Best s (whereZ b (sg s 1)) v) : 0 ≤ v ∧ v ≤ 16 - (manyZ b 0 (1 - s) : Int) := by
  obtain ⟨ps, h1, h2, h3, h4⟩ := h
  have hp : (ps.map (·.1)).Perm (whereZ b (sg s 1)) := (List.perm_ext_iff_of_nodup h3 (where_nodup b _)).2 fun i => by rw [h2 i, where_mem]
  obtain ⟨qs, hq1, hq2⟩ := perm_pairs hp ps rfl
  have hf := h1.perm hq1
  have hc := cost_perm hq1
  rcases hb with ⟨_, hn⟩ | ⟨⟨rs, r1, r2, r3⟩, hm⟩
  · exact absurd hq2 (hn qs hf)
  · have := hm qs hf hq2
    have := cost_nn rs
    omega
theorem why_none {b : List Int} {v0 v1 : Int} (hw : wrongZ b = 0) (p0 : (manyZ b 1 0 : Int) + promZ b 0 ≤ 8) (p1 : (manyZ b 1 1 : Int) + promZ b 1 ≤ 8) (m0 : MI b 0) (m1 : MI b 1) (hb : Two b v0 v1) : whyZ b v0 v1 = 0 := by
  have a0 := mi_best m0 hb.b0
  have a1 := mi_best m1 hb.b1
  rw [show (1 : Int) - 0 = 1 by decide] at a0
  rw [show (1 : Int) - 1 = 0 by decide] at a1
  unfold whyZ
  rw [if_neg (by rw [hw]; decide), if_neg (by omega), if_neg (by omega), if_neg (by omega), if_neg (by omega), if_neg (by omega), if_neg (by omega)]
theorem illegal_no {b : List Int} (h : B8 b) (hw : wrongZ b = 0) (p0 : (manyZ b 1 0 : Int) + promZ b 0 ≤ 8) (p1 : (manyZ b 1 1 : Int) + promZ b 1 ≤ 8) (m0 : MI b 0) (m1 : MI b 1) {k : Nat} (hk : 5000 < k) : i_count_Illegal.f k b = some false := by
  obtain ⟨v0, v1, h1, h2, _⟩ := two_of b h
  have ho := wrong_ok hw
  rw [qIllegal h h2 hk, why_none hw p0 p1 m0 m1 (h1 ho)]; rfl
theorem Fit.filter {s : Int} {ps : List (Int × Nat)} (h : Fit s ps) (q : Int × Nat → Bool) : Fit s (ps.filter q) :=
  ⟨List.Nodup.sublist ((List.filter_sublist).map _) h.1, fun p hp => h.2 p (List.mem_filter.1 hp).1⟩
theorem cost_filter (q : Int × Nat → Bool) : ∀ ps : List (Int × Nat), cost (ps.filter q) ≤ cost ps
  | [] => Int.le_refl _
  | p :: ps => by
    have := cost_filter q ps
    have := co1_nn p
    rw [List.filter_cons]; split <;> simp only [cost] <;> omega
theorem mi_keep {b b' : List Int} {s : Int} (h : MI b s) (hp : ∀ i : Int, 0 ≤ i → i < 64 → (nt b' i.toNat 0 = sg s 1 ↔ nt b i.toNat 0 = sg s 1)) (hm : manyZ b' 0 (1 - s) ≤ manyZ b 0 (1 - s)) : MI b' s := by
  obtain ⟨ps, h1, h2, h3, h4⟩ := h
  refine ⟨ps, h1, fun i => ?_, h3, by omega⟩
  rw [h2 i]
  constructor
  · rintro ⟨a, c, d⟩; exact ⟨a, c, (hp i a c).2 d⟩
  · rintro ⟨a, c, d⟩; exact ⟨a, c, (hp i a c).1 d⟩
theorem mi_drop {b b' : List Int} {s x : Int} (h : MI b s) (hp : ∀ i : Int, 0 ≤ i → i < 64 → (nt b' i.toNat 0 = sg s 1 ↔ nt b i.toNat 0 = sg s 1 ∧ i ≠ x)) (hm : manyZ b' 0 (1 - s) ≤ manyZ b 0 (1 - s)) : MI b' s := by
  obtain ⟨ps, h1, h2, h3, h4⟩ := h
  refine ⟨ps.filter fun p => p.1 != x, h1.filter _, fun i => ?_, List.Nodup.sublist ((List.filter_sublist).map _) h3, by have := cost_filter (fun p => p.1 != x) ps; omega⟩
  have : i ∈ (ps.filter fun p => p.1 != x).map (·.1) ↔ i ∈ ps.map (·.1) ∧ i ≠ x := by
    simp only [List.mem_map, List.mem_filter, bne_iff_ne]
    constructor
    · rintro ⟨p, ⟨a, c⟩, rfl⟩; exact ⟨⟨p, a, rfl⟩, c⟩
    · rintro ⟨⟨p, a, rfl⟩, c⟩; exact ⟨p, ⟨a, c⟩, rfl⟩
  rw [this, h2 i]
  constructor
  · rintro ⟨⟨a, c, d⟩, e⟩; exact ⟨a, c, (hp i a c).2 ⟨d, e⟩⟩
  · rintro ⟨a, c, d⟩; obtain ⟨d, e⟩ := (hp i a c).1 d; exact ⟨⟨a, c, d⟩, e⟩
def goP (f o : Int) (p : Int × Nat) : Int × Nat := if p.1 = f then (o, p.2) else p
theorem goP_2 (f o : Int) (p : Int × Nat) : (goP f o p).2 = p.2 := by unfold goP; split <;> rfl
theorem cost_go {f o d : Int} (hd : ∀ n : Nat, co1 (o, n) ≤ co1 (f, n) + d) (hd0 : 0 ≤ d) : ∀ ps : List (Int × Nat), (ps.map (·.1)).Nodup → cost (ps.map (goP f o)) ≤ cost ps + d ∧ (f ∉ ps.map (·.1) → cost (ps.map (goP f o)) = cost ps)
  | [], _ => ⟨by simp only [List.map_nil, cost]; omega, fun _ => rfl⟩
  | p :: ps, h => by
    rw [List.map_cons, List.nodup_cons] at h
    obtain ⟨i1, i2⟩ := cost_go hd hd0 ps h.2
    by_cases e : p.1 = f
    · have hn : f ∉ ps.map (·.1) := e ▸ h.1
      have e2 : goP f o p = (o, p.2) := if_pos e
      have h3 := hd p.2
      have h4 : co1 p = co1 (f, p.2) := by rw [← e]
      refine ⟨?_, fun hh => absurd (by rw [List.map_cons, e]; exact List.mem_cons_self ..) hh⟩
      rw [List.map_cons, cost, cost, i2 hn, e2]; omega
    · have e2 : goP f o p = p := if_neg e
      refine ⟨?_, fun hh => ?_⟩
      · rw [List.map_cons, cost, cost, e2]; omega
      · rw [List.map_cons, cost, cost, e2, i2 (fun h5 => hh (by rw [List.map_cons]; exact List.mem_cons_of_mem _ h5))]
theorem mi_go {b b' : List Int} {s f o d : Int} (h : MI b s) (hf : nt b f.toNat 0 = sg s 1) (hf0 : 0 ≤ f ∧ f < 64) (ho0 : 0 ≤ o ∧ o < 64) (hno : nt b o.toNat 0 ≠ sg s 1)
    (hp : ∀ i : Int, 0 ≤ i → i < 64 → (nt b' i.toNat 0 = sg s 1 ↔ (nt b i.toNat 0 = sg s 1 ∧ i ≠ f) ∨ i = o)) (hd0 : 0 ≤ d) (hd : ∀ n : Nat, co1 (o, n) ≤ co1 (f, n) + d) (hg : goneZ s f + d ≤ goneZ s o) (hg5 : goneZ s o ≤ 5)
    (hm : (manyZ b' 0 (1 - s) : Int) + d ≤ manyZ b 0 (1 - s)) : MI b' s := by
  obtain ⟨ps, h1, h2, h3, h4⟩ := h
  have hmem : ∀ i : Int, i ∈ (ps.map (goP f o)).map (·.1) ↔ (i ∈ ps.map (·.1) ∧ i ≠ f) ∨ (i = o ∧ f ∈ ps.map (·.1)) := by
    intro i
    simp only [List.map_map, List.mem_map, Function.comp]
    constructor
    · rintro ⟨p, hp, rfl⟩
      unfold goP; split
      · rename_i e; exact .inr ⟨rfl, p, hp, e⟩
      · rename_i e; exact .inl ⟨⟨p, hp, rfl⟩, e⟩
    · rintro (⟨⟨p, hp, rfl⟩, e⟩ | ⟨rfl, p, hp, e⟩)
      · exact ⟨p, hp, by unfold goP; rw [if_neg e]⟩
      · exact ⟨p, hp, by unfold goP; rw [if_pos e]⟩
  have hfm : f ∈ ps.map (·.1) := (h2 f).2 ⟨hf0.1, hf0.2, hf⟩
  refine ⟨ps.map (goP f o), ⟨?_, ?_⟩, fun i => ?_, ?_, ?_⟩
  · rw [List.map_map, show ((fun x : Int × Nat => x.2) ∘ goP f o) = fun x => x.2 from funext fun p => goP_2 f o p]; exact h1.1
  · intro p hp'
    obtain ⟨q, hq, rfl⟩ := List.mem_map.1 hp'
    have hk := h1.2 q hq
    unfold goP; split
    · rename_i e
      have h5 := hd q.2
      have h6 : co1 q = co1 (f, q.2) := by rw [← e]
      have h7 : goneZ s q.1 = goneZ s f := by rw [e]
      obtain ⟨k1, k2, k3⟩ := hk
      exact ⟨k1, by show co1 (o, q.2) ≤ goneZ s o; omega, hg5⟩
    · exact hk
  · rw [hmem i, h2 i]
    constructor
    · rintro (⟨⟨a, c, e⟩, g⟩ | ⟨rfl, _⟩)
      · exact ⟨a, c, (hp i a c).2 (.inl ⟨e, g⟩)⟩
      · exact ⟨ho0.1, ho0.2, (hp i ho0.1 ho0.2).2 (.inr rfl)⟩
    · rintro ⟨a, c, e⟩
      rcases (hp i a c).1 e with ⟨g1, g2⟩ | g
      · exact .inl ⟨⟨a, c, g1⟩, g2⟩
      · exact .inr ⟨g, hfm⟩
  · rw [List.map_map]
    have hno' : o ∉ ps.map (·.1) := fun hh => hno ((h2 o).1 hh).2.2
    clear h1 h2 h4 hp hmem hfm
    induction ps with
    | nil => exact List.nodup_nil
    | cons p ps ih =>
      rw [List.map_cons, List.nodup_cons] at h3
      rw [List.map_cons, List.mem_cons] at hno'
      have hno1 : o ∉ ps.map (·.1) := fun hh => hno' (.inr hh)
      rw [List.map_cons, List.nodup_cons]
      refine ⟨?_, ih h3.2 hno1⟩
      intro hm'
      obtain ⟨q, hq, hqe⟩ := List.mem_map.1 hm'
      simp only [Function.comp] at hqe
      unfold goP at hqe
      split at hqe <;> split at hqe
      · rename_i e1 e2; exact h3.1 (List.mem_map.2 ⟨q, hq, e1.trans e2.symm⟩)
      · rename_i e1 e2; exact hno' (.inl hqe)
      · rename_i e1 e2; exact hno1 (List.mem_map.2 ⟨q, hq, hqe⟩)
      · exact h3.1 (List.mem_map.2 ⟨q, hq, hqe⟩)
  · have := (cost_go hd hd0 ps h3).1
    omega
end Go.Proofs.Ytpjocgebnodnoaa
