import Derived.Test.YtpjocgebnodnoaaRgz
namespace Go.Proofs.Ytpjocgebnodnoaa
open Go.RowKit
set_option linter.unusedVariables false
set_option linter.unusedSimpArgs false
def SlT (w : World) (e : TypeId) (v : Value) (xs : List Value) : Prop :=
  (v = .slice none 0 0 ∧ xs = []) ∨ ∃ g off cap cur, v = .slice (some ⟨g, off, none⟩) xs.length cap ∧ Blk w g e cur ∧ xs.length ≤ cap ∧ cap ≤ maxLen ∧ off + cap ≤ cur.size ∧ (cur.toList.drop off).take xs.length = xs
section
variable {w w' : World} {B B' g : Nat} {e e' t : TypeId} {v : Value} {xs : List Value} {cs : Array Value} {α : Type} {f : α → Value} {L : List (List α)} {us : List Value}
theorem SlT.nil (w : World) (e : TypeId) : SlT w e (.slice none 0 0) [] := .inl ⟨rfl, rfl⟩
theorem SlT.move (h : SlT w e v xs) (hk : ∀ g cs, Blk w g e cs → Blk w' g e cs) : SlT w' e v xs := by
  rcases h with h | ⟨g, off, cap, cur, h1, h2, h3⟩
  · exact .inl h
  · exact .inr ⟨g, off, cap, cur, h1, hk g cur h2, h3⟩
theorem SlT.below (h : SlT w e v xs) (hb : Below w.heap.size w w') : SlT w' e v xs := h.move fun _ _ hh => hh.below hb hh.lt
theorem SlT.off (h : SlT w e v xs) (ho : Off g w w') (hg : Blk w g t cs) (hne : t ≠ e) : SlT w' e v xs := h.move fun g' cs' hh => hh.off ho (by
  rintro rfl
  unfold Blk at hh hg
  rw [hh] at hg
  injection hg with hg
  injection hg with _ ht
  exact hne ht.symm)
theorem Own.slT (h : Own w B e v xs) : SlT w e v xs := by
  rcases h.form with ⟨rfl, rfl⟩ | ⟨g, cap, cur, rfl, hb, hh, hn, hm, hs, ht⟩
  · exact SlT.nil w e
  · exact .inr ⟨g, 0, cap, cur, rfl, hh, hn, hm, by omega, by rw [List.drop_zero]; exact ht⟩
theorem SlT.sl (h : SlT w e v xs) : Sl w v xs := by
  rcases h with h | ⟨g, off, cap, cur, rfl, hh, hn, hm, hs, ht⟩
  · exact .inl h
  · refine .inr ⟨⟨g, off, none⟩, cap, rfl, hn, hm, fun i hi => ?_⟩
    rw [add_off, hh.cell]
    have : ((cur.toList.drop off).take xs.length)[i]? = xs[i]? := by rw [ht]
    rw [List.getElem?_take, if_pos hi, List.getElem?_drop, Array.getElem?_toList] at this
    exact this
theorem SlT.one (h : SlT w e v xs) : v.oneCell' = true := by
  obtain ⟨A, c, hv⟩ := h.sl.shape
  rw [hv]; rfl
theorem SlT.shape (h : SlT w e v xs) : ∃ A cap, v = .slice A xs.length cap := h.sl.shape
theorem SlT.upto {l : List α} (h : SlT w e v (l.map f)) {i : Int} (h0 : 0 ≤ i) (h1 : i ≤ (l.length : Int)) :
    ∃ A n c, v = .slice A n c ∧ i ≤ (n : Int) ∧ n ≤ c ∧ SlT w e (.slice A i.toNat c) ((l.take i.toNat).map f) ∧ SlT w e (.slice A i.toNat i.toNat) ((l.take i.toNat).map f) := by
  obtain ⟨k, rfl⟩ : ∃ k : Nat, i = k := ⟨i.toNat, by omega⟩
  rw [Int.toNat_natCast]
  have hk : k ≤ l.length := by omega
  rcases h with ⟨rfl, hx⟩ | ⟨g, off, cap, cur, rfl, hh, hn, hm, hs, ht⟩
  · simp at hx; subst hx
    have : k = 0 := by simpa using hk
    subst this
    exact ⟨none, 0, 0, rfl, by simp, Nat.le_refl _, SlT.nil w e, SlT.nil w e⟩
  · rw [List.length_map] at hn ht
    have e1 : (l.take k).length = k := by rw [List.length_take]; omega
    have e2 : (cur.toList.drop off).take k = (l.take k).map f := by
      rw [List.map_take, ← ht, List.take_take, Nat.min_eq_left hk]
    have e3 : ((l.take k).map f).length = k := by rw [List.length_map, e1]
    refine ⟨_, _, cap, rfl, by simpa using h1, by simpa using hn, .inr ⟨g, off, cap, cur, by rw [e3], hh, by rw [e3]; omega, hm, hs, by rw [e3]; exact e2⟩, .inr ⟨g, off, k, cur, by rw [e3], hh, by rw [e3]; exact Nat.le_refl _, by omega, by omega, by rw [e3]; exact e2⟩⟩
def AllS (w : World) (e : TypeId) (f : α → Value) (us : List Value) (L : List (List α)) : Prop := us.length = L.length ∧ ∀ i u, us[i]? = some u → SlT w e u ((nt L i []).map f)
theorem AllS.move (h : AllS w e f us L) (hk : ∀ g cs, Blk w g e cs → Blk w' g e cs) : AllS w' e f us L := ⟨h.1, fun i u hu => (h.2 i u hu).move hk⟩
theorem AllS.snoc {l : List α} {u : Value} (h : AllS w e f us L) (hu : SlT w e u (l.map f)) : AllS w e f (us ++ [u]) (L ++ [l]) := by
  refine ⟨by simp [h.1], fun i x hx => ?_⟩
  rcases Nat.lt_trichotomy i us.length with hi | hi | hi
  · rw [List.getElem?_append_left hi] at hx
    have := h.2 i x hx
    have e1 : nt (L ++ [l]) i [] = nt L i [] := by unfold nt; simp [List.getD, List.getElem?_append_left (show i < L.length by rw [← h.1]; exact hi)]
    rw [e1]; exact this
  · subst hi
    rw [List.getElem?_append_right (Nat.le_refl _), Nat.sub_self] at hx
    have e1 : nt (L ++ [l]) us.length [] = l := by unfold nt; simp [List.getD, h.1]
    rw [e1]; simp at hx; subst hx; exact hu
  · rw [List.getElem?_eq_none (by simp; omega)] at hx; cases hx
def OwnS (w : World) (B : Nat) (e e' : TypeId) (f : α → Value) (v : Value) (L : List (List α)) : Prop := ∃ us, Own w B e v us ∧ AllS w e' f us L
def SlS (w : World) (e e' : TypeId) (f : α → Value) (v : Value) (L : List (List α)) : Prop := ∃ us, SlT w e v us ∧ AllS w e' f us L
theorem OwnS.nil (w : World) (B : Nat) (e e' : TypeId) (f : α → Value) : OwnS w B e e' f (.slice none 0 0) [] := ⟨[], Own.nil _ _ _, rfl, fun i u h => by simp at h⟩
theorem SlS.nil (w : World) (e e' : TypeId) (f : α → Value) : SlS w e e' f (.slice none 0 0) [] := ⟨[], SlT.nil _ _, rfl, fun i u h => by simp at h⟩
theorem OwnS.moves (h : OwnS w B e e' f v L) (hk : ∀ g cs, Blk w g e cs → Blk w' g e cs) (hk' : ∀ g cs, Blk w g e' cs → Blk w' g e' cs) : OwnS w' B e e' f v L := by
  obtain ⟨us, h1, h2⟩ := h; exact ⟨us, h1.move fun g cs _ => hk g cs, h2.move hk'⟩
theorem SlS.moves (h : SlS w e e' f v L) (hk : ∀ g cs, Blk w g e cs → Blk w' g e cs) (hk' : ∀ g cs, Blk w g e' cs → Blk w' g e' cs) : SlS w' e e' f v L := by
  obtain ⟨us, h1, h2⟩ := h; exact ⟨us, h1.move hk, h2.move hk'⟩
theorem OwnS.below (h : OwnS w B e e' f v L) (hb : Below w.heap.size w w') : OwnS w' B e e' f v L := h.moves (fun _ _ hh => hh.below hb hh.lt) (fun _ _ hh => hh.below hb hh.lt)
theorem SlS.below (h : SlS w e e' f v L) (hb : Below w.heap.size w w') : SlS w' e e' f v L := h.moves (fun _ _ hh => hh.below hb hh.lt) (fun _ _ hh => hh.below hb hh.lt)
theorem OwnS.mono (h : OwnS w B e e' f v L) (hB : B' ≤ B) : OwnS w B' e e' f v L := by obtain ⟨us, h1, h2⟩ := h; exact ⟨us, h1.mono hB, h2⟩
theorem OwnS.slS (h : OwnS w B e e' f v L) : SlS w e e' f v L := by obtain ⟨us, h1, h2⟩ := h; exact ⟨us, h1.slT, h2⟩
theorem SlS.slS (h : SlS w e e' f v L) : SlS w e e' f v L := h
theorem SlT.slT (h : SlT w e v xs) : SlT w e v xs := h
theorem SlS.shape (h : SlS w e e' f v L) : ∃ A cap, v = .slice A L.length cap := by
  obtain ⟨us, h1, h2⟩ := h
  obtain ⟨A, c, hv⟩ := h1.shape
  exact ⟨A, c, by rw [hv, h2.1]⟩
theorem OwnS.shape (h : OwnS w B e e' f v L) : ∃ A cap, v = .slice A L.length cap := h.slS.shape
theorem OwnS.one (h : OwnS w B e e' f v L) : v.oneCell' = true := by obtain ⟨A, c, hv⟩ := h.shape; rw [hv]; rfl
theorem SlS.get (h : SlS w e e' f v L) {i : Int} (h0 : 0 ≤ i) (h1 : i < (L.length : Int)) :
    ∃ a cap u, v = .slice (some a) L.length cap ∧ w.cell? (a.add i.toNat) = some u ∧ SlT w e' u ((nt L i.toNat []).map f) := by
  obtain ⟨us, ⟨rfl, hx⟩ | ⟨g, off, cap, cur, rfl, hh, hn, hm, hs, ht⟩, h2, h3⟩ := h
  · subst hx; simp at h2; omega
  · have hi : i.toNat < us.length := by omega
    refine ⟨⟨g, off, none⟩, cap, us[i.toNat], by rw [h2], ?_, h3 _ _ (List.getElem?_eq_getElem hi)⟩
    rw [add_off, hh.cell]
    have : ((cur.toList.drop off).take us.length)[i.toNat]? = us[i.toNat]? := by rw [ht]
    rw [List.getElem?_take, if_pos hi, List.getElem?_drop, Array.getElem?_toList, List.getElem?_eq_getElem hi] at this
    exact this
end
section
variable {P : Program} {t e e' : TypeId} {bytes n : Nat} {w : World} {ops : Array Oper} {rest : List Oper} {o o2 : Oper} {a : Act} {Q : Exit → Act → World → Prop} {ev : Operand → Value} {z : Array Value}
theorem app_sl {α : Type} {f : α → Value} (E : ElemT P t e bytes) (B : Nat) (v : Value) (L : List (List α)) (l : List α) (u : Value) (g c : Nat) (hown : OwnS w B e e' f v L) (hne : e' ≠ e) (hu : SlT w e' u (l.map f)) (hg : Blk w g e #[u]) (hlen : (L.length + 1) * bytes ≤ 140737488355328) (hl : L.length + 1 ≤ maxLen) (hB : B ≤ w.heap.size)
    (hgd : o.guard = none) (s x : Operand) (ho : o.op = .call { callee := .builtin .append, args := #[s, x], argTypes := #[t, t] }) (hs : a.eval s = v) (hx : a.eval x = .slice (some ⟨g, 0, none⟩) 1 c)
    (h : ∀ v' w', OwnS w' B e e' f v' (L ++ [l]) → Below B w w' → (∀ g' t' cs, t' ≠ e → Blk w g' t' cs → Blk w' g' t' cs) → (∀ g' s p, Itr w g' s p → Itr w' g' s p) → wpList P ops Q rest (a.put o.dst v') w') : wpList P ops Q (o :: rest) a w := by
  obtain ⟨us, h1, h2⟩ := hown
  refine app_one E B v us u g c h1 hg hu.one (by rw [h2.1]; exact hlen) (by rw [h2.1]; exact hl) hB hgd s x ho hs hx fun v' w' ho' hb hk hi => ?_
  exact h v' w' ⟨_, ho', (h2.move fun g cs hh => hk g e' cs hne hh).snoc (hu.move fun g cs hh => hk g e' cs hne hh)⟩ hb hk hi
theorem ag_alst (T : AggT P t n z) (us : Array Value) (g : Nat) (hg : w.heap.size = g) (hn : us.size = n) (hu1 : ∀ v ∈ us.toList, v.oneCell' = true) (hgd : Region.wanted o (yielded ops a.tmps) = true) (ho : o.op = .alloc t)
    (d : Nat) (hd : o.dst = some d) (x y : Operand) (ho2 : o2.op = .store t x y) (hx : ∀ u, (a.put (some d) u).eval x = u) (hy : ∀ u, (a.put (some d) u).eval y = .agg us) (hgd2 : o2.guard = none)
    (h : ∀ w1, Below g w w1 → Blk w1 g t us → w1.heap.size = g + 1 → wpList P ops Q rest ((a.put o.dst (.pointer (some ⟨g, 0, none⟩))).put o2.dst undef) w1) : wpList P ops Q (o :: o2 :: rest) a w := by
  refine ag_alloc T g hg hgd ho fun w1 hb hB hs => ?_
  have hzs := T.zsize
  refine ag_store T g 0 z us us hB hn (by omega) hu1 (by
    apply Array.ext'
    rw [putAt_list _ _ _ (by simp [hn, hzs])]
    simp [hn, hzs]) (by unfold Region.wanted; rw [hgd2]) x y ho2 (by rw [hd]; exact hx _) (by rw [hd]; exact hy _) fun w2 hoff hblk => ?_
  exact h w2 (hoff.below hb (Nat.le_refl _)) hblk (by rw [hoff.size]; exact hs)
theorem ex_slh (hu : P.underlying t = some (.slice e)) (hz : ∃ k, ∀ w, (sizeOf e).run P w = .ok k w) (A : Option Addr) (m c : Nat) (v : Value) (hv : v = .slice A m c) (i : Int) (h0 : 0 ≤ i) (h1 : i ≤ (m : Int)) (hmc : m ≤ c) (x y : Operand) (ho : o.op = .slice t x none (some y) none) (hx : ev x = v) (hy : ev y = .int .i64 i) :
    (execOp ev o).run P w = .ok (.value (.slice A i.toNat c)) w := by
  subst hv
  obtain ⟨k, hz⟩ := hz
  have e1 : A.map (fun a => a.add 0) = A := by cases A <;> simp [Addr.add]
  unfold execOp
  simp [ho, hx, hy, Instr.sliceAt, Instr.slice, run_underlying hu, Instr.sliceBounds, run_sliceBound, h0, show i ≤ (c : Int) by omega, hz, e1]
end
end Go.Proofs.Ytpjocgebnodnoaa
