/- Tables and a map beside them: what each holds of the other. -/
import Derived.Test.YtpjocgebnodnoaaUi
import Derived.Test.YtpjocgebnodnoaaOb
namespace Go.Proofs.Ytpjocgebnodnoaa
open Go.RowKit
set_option linter.unusedVariables false
set_option linter.unusedSimpArgs false
set_option maxRecDepth 100000
theorem and2047 (a : Int) : ∃ m : Nat, m < 2048 ∧ Go.bits .and .i64 a 2047 = (m : Int) := by
  unfold Go.bits
  refine ⟨(BitVec.ofInt IntKind.i64.bits a &&& BitVec.ofInt IntKind.i64.bits 2047).toNat, ?_, ?_⟩
  · rw [BitVec.toNat_and]
    have h := Nat.and_le_right (n := (BitVec.ofInt IntKind.i64.bits a).toNat) (m := (BitVec.ofInt IntKind.i64.bits 2047).toNat)
    have e : (BitVec.ofInt IntKind.i64.bits 2047).toNat = 2047 := by decide
    omega
  · have h := Nat.and_le_right (n := (BitVec.ofInt IntKind.i64.bits a).toNat) (m := (BitVec.ofInt IntKind.i64.bits 2047).toNat)
    have e : (BitVec.ofInt IntKind.i64.bits 2047).toNat = 2047 := by decide
    rw [← BitVec.toNat_and] at h
    show IntKind.i64.wrap ((BitVec.ofInt IntKind.i64.bits a &&& BitVec.ofInt IntKind.i64.bits 2047).toNat : Int) = _
    rw [i64_w, k64 (by omega) (by omega)]
theorem dec_all : ((List.range 2048).all fun m => decide (Go.bits .and .i64 (m : Int) 1 + 2 * Go.bits .and .i64 ((m : Int) / 2) 15 + 32 * Go.bits .and .i64 ((m : Int) / 32) 63 = (m : Int))) = true := by decide +kernel
theorem dec_is {m : Nat} (h : m < 2048) : Go.bits .and .i64 (m : Int) 1 + 2 * Go.bits .and .i64 ((m : Int) / 2) 15 + 32 * Go.bits .and .i64 ((m : Int) / 32) 63 = (m : Int) := of_decide_eq_true (List.all_eq_true.1 dec_all m (List.mem_range.2 h))
theorem atK_inj {m m' : Nat} {d d' : Int} (h : m < 2048) (h' : m' < 2048) (e : atK m d = atK m' d') : m = m' ∧ d = d' := by
  unfold atK at e
  injection e with _ e
  injection e with e1 e
  injection e with e2 e
  injection e with e3 e4
  have a1 := dec_is h
  have a2 := dec_is h'
  rw [e1, e2, e3] at a1
  exact ⟨by omega, e4⟩
theorem a53 : WideMaps.ArrKey Try.prog 53 3 2 := ⟨by kernel_rfl, by kernel_rfl, by kernel_rfl, by kernel_rfl⟩
theorem k53 : Maps.Keyed Try.prog 53 := Maps.Keyed.of_law a53.law
def kl53 (k : Nat × Int) : Lit := .string (keyBytes [.int .i64 (k.1 : Int), .int .i64 k.2])
theorem sz53 : ∃ m, Try.prog.types.size = m + 1 := ⟨Try.prog.types.size - 1, by
  have : 0 < Try.prog.types.size := of_decide_eq_true (by kernel_rfl)
  omega⟩
theorem wf_nat {m : Nat} (h : m < 2048) : (Lit.int .i64 (m : Int)).wf = true := by simp [Lit.wf, IntKind.min, IntKind.max, IntKind.signed, IntKind.bits]; omega
theorem key53 {k : Nat × Int} (h : k.1 < 2048) (hd : (Lit.int .i64 k.2).wf = true) : keyOf Try.prog 53 (.agg #[.int .i64 (k.1 : Int), .int .i64 k.2]) = some (kl53 k) := WideMaps.keyOf_pair a53 (by kernel_rfl) sz53 (wf_nat h) hd
def okK (k : Nat × Int) : Prop := k.1 < 2048 ∧ (Lit.int .i64 k.2).wf = true
theorem kl53_lit {k : Nat × Int} (h : okK k) : WideAt.IsKeyLit (kl53 k) := k53.key (key53 h.1 h.2)
theorem kl53_ne {k k' : Nat × Int} (h : okK k) (h' : okK k') (hne : k ≠ k') : kl53 k ≠ kl53 k' := fun e => by
  have := k53.inj (key53 h.1 h.2) (by rw [e]; exact key53 h'.1 h'.2)
  injection this with this
  injection this with this
  injection this with e1 e2
  injection e2 with e2 _
  injection e1 with _ e1
  injection e2 with _ e2
  exact hne (Prod.ext (by omega) e2)
abbrev DT := DataW Unit
/-- a map read as names and values. -/
structure Mp (D : DT) (Ks : List (Nat × Int)) (f : Nat × Int → Int) : Prop where
  tidy : Maps.Tidy D
  ok : ∀ k ∈ Ks, okK k
  has : ∀ k, okK k → Maps.has D (kl53 k) = decide (k ∈ Ks)
  at_ : ∀ k ∈ Ks, ∀ z, D.atKey (kl53 k) z = .lit (.int .i64 (f k))
  size : Maps.size D = Ks.length
theorem mp_empty : Mp (.map []) [] (fun _ => 0) := ⟨Maps.tidy_empty, fun k h => by simp at h, fun k _ => by simp [Maps.has], fun k h => by simp at h, rfl⟩
theorem mp_put {D D' : DT} {Ks : List (Nat × Int)} {f : Nat × Int → Int} (h : Mp D Ks f) {k : Nat × Int} (hk : okK k) (v : Int) (hD : D' = D.put (kl53 k) (.lit (.int .i64 v))) (ht : Maps.Tidy D') :
    Mp D' (if k ∈ Ks then Ks else k :: Ks) (fun k' => if k' = k then v else f k') := by
  subst hD
  have mem : ∀ k', k' ∈ (if k ∈ Ks then Ks else k :: Ks) ↔ k' = k ∨ k' ∈ Ks := fun k' => by
    split
    · rename_i hm; exact ⟨.inr, fun h => h.elim (fun e => e ▸ hm) id⟩
    · simp
  refine ⟨ht, fun k' hk' => ?_, fun k' ho => ?_, fun k' hk' z => ?_, ?_⟩
  · rcases (mem k').1 hk' with rfl | h2
    · exact hk
    · exact h.ok k' h2
  · by_cases e : k' = k
    · subst e; rw [Maps.has_put_same h.tidy.isMap (kl53_lit hk)]; exact (decide_eq_true ((mem k').2 (.inl rfl))).symm
    · rw [Maps.has_put_other (kl53_ne ho hk e), h.has k' ho]
      rw [decide_eq_decide]; exact ⟨fun h2 => (mem k').2 (.inr h2), fun h2 => ((mem k').1 h2).resolve_left e⟩
  · by_cases e : k' = k
    · subst e; rw [Maps.atKey_put_same h.tidy.isMap (kl53_lit hk)]; simp
    · have h2 := ((mem k').1 hk').resolve_left e
      rw [Maps.atKey_put_other (kl53_ne (h.ok k' h2) hk e), h.at_ k' h2 z, if_neg e]
  · rw [Maps.size_put h.tidy, h.has k hk, h.size]
    by_cases e : k ∈ Ks
    · simp [e]
    · simp [e]
/-- what a table holds a map holds too. -/
def Lk (L : Slots) (Ks : List (Nat × Int)) (f : Nat × Int → Int) : Prop := ∀ i q x, nt L i none = some (q, x) → ∃ k ∈ Ks, q = atK k.1 k.2 ∧ f k = x
theorem lk_empty (n : Nat) : Lk (emptyZ n) [] (fun _ => 0) := fun i q x h => by unfold emptyZ at h; rw [nt_rep] at h; cases h
theorem lk_put {L : Slots} {Ks : List (Nat × Int)} {f : Nat × Int → Int} (h : Lk L Ks f) (hg : Good L) (hok : ∀ k ∈ Ks, okK k) {k : Nat × Int} (hk : okK k) (v : Int) (h0 : 0 < L.length) :
    Lk (putZ L (atK k.1 k.2) v) (if k ∈ Ks then Ks else k :: Ks) (fun k' => if k' = k then v else f k') := by
  intro i q x hn
  rw [putZ_eq] at hn
  have mem : ∀ k', k' = k ∨ k' ∈ Ks → k' ∈ (if k ∈ Ks then Ks else k :: Ks) := fun k' hh => by
    split
    · rename_i hm; exact hh.elim (fun e => e ▸ hm) id
    · simpa using hh
  by_cases e : i = putI L (atK k.1 k.2)
  · rw [e, nt_set_eq (putI_lt _ h0)] at hn
    injection hn with hn; injection hn with e1 e2
    exact ⟨k, mem k (.inl rfl), e1.symm, by simp [e2]⟩
  · rw [nt_set_ne e] at hn
    obtain ⟨k', hk', hq, hf⟩ := h i q x hn
    have ne : k' ≠ k := fun e2 => by
      subst e2
      refine e ?_
      unfold putI; rw [← hq, find_one hg hn]; rfl
    exact ⟨k', mem k' (.inr hk'), hq, by show (if k' = k then v else f k') = x; rw [if_neg ne]; exact hf⟩
theorem lk_get {L : Slots} {Ks : List (Nat × Int)} {f : Nat × Int → Int} (h : Lk L Ks f) (hg : Good L) (hok : ∀ k ∈ Ks, okK k) {k : Nat × Int} (hk : okK k) {v : Int} (hv : getZ L (atK k.1 k.2) = some v) : k ∈ Ks ∧ f k = v := by
  obtain ⟨i, hn⟩ := (get_iff hg).1 hv
  obtain ⟨k', hk', hq, hf⟩ := h i _ v hn
  obtain ⟨e1, e2⟩ := atK_inj hk.1 (hok k' hk').1 hq
  have : k = k' := Prod.ext e1 e2
  subst this
  exact ⟨hk', hf⟩
theorem lk_len {L : Slots} {Ks : List (Nat × Int)} {f : Nat × Int → Int} (h : Lk L Ks f) (hg : Good L) : lenZ L ≤ Ks.length := by
  have := nodup_le (keysOf L) (Ks.map fun k => atK k.1 k.2) (keysOf_nodup hg.one) (fun q hq => by
    obtain ⟨i, x, hn⟩ := keysOf_mem hq
    obtain ⟨k, hk, hq2, _⟩ := h i q x hn
    exact List.mem_map.2 ⟨k, hk, hq2.symm⟩)
  rw [keysOf_len, List.length_map] at this
  exact this
end Go.Proofs.Ytpjocgebnodnoaa
