import Derived.Test.YtaipghemddjecaaAgz
import Derived.Laws.AppendOwn
import Derived.OwnWalk
namespace Go.Proofs.Ytaipghemddjecaa
open Go.RowKit
def Own (w : World) (B : Nat) (e : TypeId) (v : Value) (xs : List Value) : Prop := w.ownsRow B e 1 v xs.length xs
section
variable {w w' : World} {B B' g g' : Nat} {e t : TypeId} {v : Value} {xs : List Value} {cs : Array Value}
theorem Own.nil (w : World) (B : Nat) (e : TypeId) : Own w B e (.slice none 0 0) [] := World.ownsRow_nil _ _ _ _
theorem Own.alloc (h : Own w B e v xs) (o : Obj) : Own (w.alloc o) B e v xs := World.ownsRow.alloc h o
theorem Own.form (h : Own w B e v xs) : (v = .slice none 0 0 ∧ xs = []) ∨ ∃ g cap cur, v = .slice (some ⟨g, 0, none⟩) xs.length cap ∧ B ≤ g ∧ Blk w g e cur ∧ xs.length ≤ cap ∧ cap ≤ maxLen ∧ cur.size = cap ∧ cur.toList.take xs.length = xs := by
  obtain ⟨_, h2⟩ := h
  rcases h2 with ⟨rfl, h0⟩ | ⟨g, cap, cur, rfl, hb, hh, hn, hm, hs, ht⟩
  · exact .inl ⟨rfl, List.eq_nil_of_length_eq_zero h0⟩
  · exact .inr ⟨g, cap, cur, rfl, hb, hh, hn, hm, by simpa using hs, by simpa using ht⟩
theorem Own.of_blk (hB : B ≤ g) (hh : Blk w g e cs) (hn : xs.length ≤ cs.size) (hm : cs.size ≤ maxLen) (ht : cs.toList.take xs.length = xs) : Own w B e (.slice (some ⟨g, 0, none⟩) xs.length cs.size) xs :=
  ⟨by simp, .inr ⟨g, cs.size, cs, rfl, hB, hh, hn, hm, by simp, by simpa using ht⟩⟩
theorem Own.move (h : Own w B e v xs) (hk : ∀ g cs, B ≤ g → Blk w g e cs → Blk w' g e cs) : Own w' B e v xs := by
  rcases h.form with ⟨rfl, rfl⟩ | ⟨g, cap, cur, rfl, hb, hh, hn, hm, hs, ht⟩
  · exact Own.nil _ _ _
  · subst hs; exact Own.of_blk hb (hk g cur hb hh) hn hm ht
theorem Own.below (h : Own w B e v xs) (hb : Below w.heap.size w w') : Own w' B e v xs := h.move fun _ _ _ hh => hh.below hb hh.lt
theorem Own.mono (h : Own w B e v xs) (hB : B' ≤ B) : Own w B' e v xs := by
  rcases h.form with ⟨rfl, rfl⟩ | ⟨g, cap, cur, rfl, hb, hh, hn, hm, hs, ht⟩
  · exact Own.nil _ _ _
  · subst hs; exact Own.of_blk (Nat.le_trans hB hb) hh hn hm ht
theorem Own.off (h : Own w B e v xs) (ho : Off g w w') (hg : Blk w g t cs) (hne : t ≠ e) : Own w' B e v xs := h.move fun g' cs' _ hh => hh.off ho (by
  rintro rfl
  unfold Blk at hh hg
  rw [hh] at hg
  injection hg with hg
  injection hg with _ ht
  exact hne ht.symm)
theorem Own.at_ (h : Own w B e v xs) (k : Nat) (s : ByteArray) (p : Nat) (hk : Itr w k s p) (p' : Nat) : Own (w.iterAt k s p') B e v xs := h.move fun g' cs' hb hh => hh.at_ (by
  rintro rfl
  unfold Blk at hh; unfold Itr at hk
  rw [hh] at hk; cases hk)
theorem Own.cell (h : Own w B e v xs) (i : Nat) (hi : i < xs.length) : ∃ g cap, v = .slice (some ⟨g, 0, none⟩) xs.length cap ∧ B ≤ g ∧ xs.length ≤ cap ∧ cap ≤ maxLen ∧ w.cell? ⟨g, i, none⟩ = some (xs[i]'hi) := by
  rcases h.form with ⟨rfl, rfl⟩ | ⟨g, cap, cur, rfl, hb, hh, hn, hm, hs, ht⟩
  · simp at hi
  · refine ⟨g, cap, rfl, hb, hn, hm, ?_⟩
    rw [hh.cell]
    have : (cur.toList.take xs.length)[i]? = xs[i]? := by rw [ht]
    rw [List.getElem?_take, if_pos hi, Array.getElem?_toList] at this
    rw [this, List.getElem?_eq_getElem hi]
theorem Own.shape (h : Own w B e v xs) : ∃ A cap, v = .slice A xs.length cap := by
  rcases h.form with ⟨rfl, rfl⟩ | ⟨g, cap, cur, rfl, _⟩
  · exact ⟨_, _, rfl⟩
  · exact ⟨_, _, rfl⟩
end
structure ElemT (P : Program) (t e : TypeId) (bytes : Nat) : Prop where
  und : P.underlying t = some (.slice e)
  info : ∃ i z, P.info? e = some i ∧ i.zero = some z ∧ i.size = 1 ∧ i.bytes = bytes ∧ z.cells.size = 1
section
variable {P : Program} {t e : TypeId} {bytes : Nat} {w : World} {ops : Array Oper} {rest : List Oper} {o : Oper} {a : Act} {Q : Exit → Act → World → Prop}
theorem app_one (E : ElemT P t e bytes) (B : Nat) (v : Value) (xs : List Value) (u : Value) (g c : Nat) (hown : Own w B e v xs) (hg : Blk w g e #[u]) (h1 : u.oneCell' = true) (hlen : (xs.length + 1) * bytes ≤ 140737488355328) (hl : xs.length + 1 ≤ maxLen) (hB : B ≤ w.heap.size)
    (hgd : o.guard = none) (s x : Operand) (ho : o.op = .call { callee := .builtin .append, args := #[s, x], argTypes := #[t, t] }) (hs : a.eval s = v) (hx : a.eval x = .slice (some ⟨g, 0, none⟩) 1 c)
    (h : ∀ v' w', Own w' B e v' (xs ++ [u]) → Below B w w' → (∀ g' t' cs, t' ≠ e → Blk w g' t' cs → Blk w' g' t' cs) → (∀ g' s p, Itr w g' s p → Itr w' g' s p) → wpList P ops Q rest (a.put o.dst v') w') : wpList P ops Q (o :: rest) a w := by
  obtain ⟨i, z, hi, hz, hz1, hz2, hzs⟩ := E.info
  refine wpList_append_own w hgd s x t ho B e i z 1 bytes E.und hi hz hz1 hz2 hzs (by decide) v xs.length xs hs hown ⟨g, 0, none⟩ 1 c [u] hx rfl (fun j y hj => ?_) (by simpa using h1) hl hlen hB ?_
  · match j, hj with
    | 0, hj => rw [add_off, hg.cell]; exact hj
  · intro v' w' h2 h3 _
    have hrow : ∀ k, v.ownBlock = some k → B ≤ k := fun k hk => (World.ownsRow.lt hown k hk).1
    refine h v' w' (by unfold Own; rw [List.length_append]; exact h2) ((Below.refl _ _).grown h3 hB hrow) (fun g' t' cs hne hb => ?_) (fun g' s p hb => ?_)
    · refine (h3.block g' hb.lt (fun he => ?_)).trans hb
      rcases hown.form with ⟨rfl, _⟩ | ⟨g2, cap, cur, rfl, _, hh, _⟩
      · simp [Value.ownBlock] at he
      · simp [Value.ownBlock] at he
        subst he
        unfold Blk at hh hb
        rw [hh] at hb; injection hb with hb; injection hb with _ ht; exact hne ht.symm
    · refine (h3.block g' hb.lt (fun he => ?_)).trans hb
      rcases hown.form with ⟨rfl, _⟩ | ⟨g2, cap, cur, rfl, _, hh, _⟩
      · simp [Value.ownBlock] at he
      · simp [Value.ownBlock] at he
        subst he
        unfold Blk at hh; unfold Itr at hb
        rw [hh] at hb; cases hb
end
end Go.Proofs.Ytaipghemddjecaa
