/- Rays: the table while it is made: its block, the row of all squares, pieces of it, rows of rays. -/
import Derived.Test.YtpjocgebnodnoaaY1w
import Derived.Maps.AppendAt
namespace Go.Proofs.Ytpjocgebnodnoaa
open Go.RowKit
set_option linter.unusedVariables false
set_option linter.unusedSimpArgs false
/-- what an append leaves: the row's own block may have grown behind its length. -/
structure Grew (e : TypeId) (w w' : World) (v v' : Value) (n : Nat) : Prop where
  os : w'.os = w.os
  tape : w'.tape = w.tape
  output : w'.output = w.output
  size : w.heap.size ≤ w'.heap.size
  other : ∀ k, k < w.heap.size → v.ownBlock ≠ some k → w'.heap[k]? = w.heap[k]?
  own : ∀ k cur, v.ownBlock = some k → Blk w k e cur → ∃ cur', Blk w' k e cur' ∧ cur'.size = cur.size ∧ cur'.toList.take n = cur.toList.take n
  where_ : v'.ownBlock = v.ownBlock ∨ v'.ownBlock = some w.heap.size
theorem Grew.below {B : Nat} {e : TypeId} {w w' : World} {v v' : Value} {n : Nat} (h : Grew e w w' v v' n) (hB : ∀ k, v.ownBlock = some k → B ≤ k) (hw : B ≤ w.heap.size) : Below B w w' :=
  ⟨h.os, h.tape, h.output, h.size, fun k hk => h.other k (by omega) (fun hh => by have := hB k hh; omega)⟩
section
variable {P : Program} {t e : TypeId} {bytes : Nat} {w : World} {ops : Array Oper} {rest : List Oper} {o : Oper} {a : Act} {Q : Exit → Act → World → Prop}
theorem run_grew (E : ElemT P t e bytes) (ty : TypeId) (B : Nat) (v v2 : Value) (xs ys : List Value) (hown : Own w B e v xs) (hs2 : Sl w v2 ys) (hne : 0 < ys.length) (h1 : ∀ u ∈ ys, u.oneCell' = true) (hlen : (xs.length + ys.length) * bytes ≤ 140737488355328) (hl : xs.length + ys.length ≤ maxLen) (hB : B ≤ w.heap.size) :
    ∃ v' w', (Builtin.append_ #[t, t] ty #[v, v2]).run P w = .ok v' w' ∧ Own w' B e v' (xs ++ ys) ∧ Grew e w w' v v' xs.length := by
  obtain ⟨i, z, hi, hz, hz1, hz2, hzs⟩ := E.info
  rcases hs2 with ⟨rfl, h2⟩ | ⟨ad, c, rfl, hc1, hc2, hc⟩
  · rw [h2] at hne; cases hne
  · have hnews : ∀ j y, ys[j]? = some y → w.cell? (ad.add j) = some y := fun j y hj => by rw [hc j (List.getElem?_eq_some_iff.mp hj).1]; exact hj
    obtain ⟨v', w', hr, hown', hg, _, hblk⟩ := run_append_own_at (P := P) w B t ty e i z 1 bytes E.und hi hz hz1 hz2 hzs (by decide) v xs.length xs hown ad ys.length c ys (by simp) hnews h1 hl hlen hB
    refine ⟨v', w', hr, by unfold Own; rw [List.length_append]; exact hown', hg.os, hg.tape, hg.output, hg.size, fun k hk hne => hg.block k hk (fun hh => hne hh.symm), ?_, hblk⟩
    intro k cur hk hcur
    rcases hown.form with ⟨rfl, _⟩ | ⟨g, cap, cur2, rfl, hb, hh, hn, hm, hcs, ht⟩
    · simp [Value.ownBlock] at hk
    · obtain rfl : g = k := by simpa [Value.ownBlock] using hk
      have ecur : cur2 = cur := by
        unfold Blk at hh hcur
        rw [hh] at hcur; injection hcur with hcur; injection hcur
      subst ecur
      by_cases hroom : xs.length + ys.length ≤ cap
      · have hr2 := run_append_room (P := P) w t ty e i E.und hi g xs.length cap cur2 hh ad ys.length c ys (by rw [hz1]; simp) hnews h1 hroom (by rw [hz1]; omega)
        rw [hr] at hr2
        injection hr2 with hv hw
        refine ⟨_, by rw [hw]; exact setRow_heap w g cur2 _ e _ hh, ?_, ?_⟩
        · simp [hz1]
          omega
        · rw [hz1, Nat.mul_one]
          simp only [List.append_assoc]
          rw [List.take_append_of_le_length (by simp; omega), List.take_take, Nat.min_self]
      · have holds : ∀ j u, xs[j]? = some u → w.cell? ((⟨g, 0, none⟩ : Addr).add j) = some u := World.ownsRow.cells hown rfl
        have hr2 := run_append_grow (P := P) w t ty e i z E.und hi hz ⟨g, 0, none⟩ xs.length cap xs (by rw [hz1]; simp) holds ad ys.length c ys (by rw [hz1]; simp) hnews (by omega) (by simp only [maxLen] at hl; omega) (by rw [hz2]; exact growslice_fits (by omega) hlen)
        rw [hr] at hr2
        injection hr2 with hv hw
        refine ⟨cur2, ?_, rfl, rfl⟩
        rw [hw]
        exact (Below.heap_alloc w.drew _ g hh.lt).trans hh
theorem app_grew (E : ElemT P t e bytes) (B : Nat) (v v2 : Value) (xs ys : List Value) (hown : Own w B e v xs) (hs2 : Sl w v2 ys) (hne : 0 < ys.length) (h1 : ∀ u ∈ ys, u.oneCell' = true) (hlen : (xs.length + ys.length) * bytes ≤ 140737488355328) (hl : xs.length + ys.length ≤ maxLen) (hB : B ≤ w.heap.size)
    (hgd : Region.wanted o (yielded ops a.tmps) = true) (s x : Operand) (ho : o.op = .call { callee := .builtin .append, args := #[s, x], argTypes := #[t, t] }) (hs : a.eval s = v) (hx : a.eval x = v2)
    (h : ∀ v' w', Own w' B e v' (xs ++ ys) → Grew e w w' v v' xs.length → wpList P ops Q rest (a.put o.dst v') w') : wpList P ops Q (o :: rest) a w := by
  obtain ⟨v', w', hr, h2, h3⟩ := run_grew E o.type B v v2 xs ys hown hs2 hne h1 hlen hl hB
  refine wpList_want hgd fun K hK => ?_
  unfold Oper.wp execOp
  simp only [ho, resolve, invoke, builtin, Sem.run_bind, Sem.run_pure, Result.andThen_ok, List.map_toArray, List.map_cons, List.map_nil, hs, hx, hr]
  exact hK _ _ (h v' w' h2 h3)
end
/-- a piece of the row v (whose length is n), or of one that was it. -/
def Pc (w : World) (v : Value) (n : Nat) (u : Value) (l : List Int) : Prop :=
  ∃ g off cap cur, u = .slice (some ⟨g, off, none⟩) l.length cap ∧ Blk w g 3 cur ∧ l.length ≤ cap ∧ cap ≤ maxLen ∧ off + cap ≤ cur.size ∧ (cur.toList.drop off).take l.length = l.map (Value.int .i64) ∧ (v.ownBlock = some g → off + l.length ≤ n)
theorem Pc.slT {w : World} {v u : Value} {n : Nat} {l : List Int} (h : Pc w v n u l) : SlT w 3 u (l.map (Value.int .i64)) := by
  obtain ⟨g, off, cap, cur, h1, h2, h3, h4, h5, h6, _⟩ := h
  exact .inr ⟨g, off, cap, cur, by rw [List.length_map]; exact h1, h2, by rw [List.length_map]; exact h3, h4, h5, by rw [List.length_map]; exact h6⟩
theorem Pc.move {w w' : World} {v u : Value} {n : Nat} {l : List Int} (h : Pc w v n u l) (hk : ∀ g cs, Blk w g 3 cs → Blk w' g 3 cs) : Pc w' v n u l := by
  obtain ⟨g, off, cap, cur, h1, h2, h3⟩ := h
  exact ⟨g, off, cap, cur, h1, hk _ _ h2, h3⟩
theorem Pc.grew {w w' : World} {v v' u : Value} {n m : Nat} {l : List Int} (h : Pc w v n u l) (hg : Grew 3 w w' v v' n) : Pc w' v' (n + m) u l := by
  obtain ⟨g, off, cap, cur, h1, h2, h3, h4, h5, h6, h7⟩ := h
  by_cases hv : v.ownBlock = some g
  · obtain ⟨cur', c1, c2, c3⟩ := hg.own g cur hv h2
    have hle := h7 hv
    refine ⟨g, off, cap, cur', h1, c1, h3, h4, by omega, ?_, fun _ => by omega⟩
    rw [← h6]
    have e : ∀ x : Array Value, (x.toList.drop off).take l.length = ((x.toList.take n).drop off).take l.length := fun x => by
      rw [List.drop_take, List.take_take, Nat.min_eq_left (by omega)]
    rw [e cur', e cur, c3]
  · refine ⟨g, off, cap, cur, h1, (hg.other g h2.lt hv).trans h2, h3, h4, h5, h6, fun hv' => ?_⟩
    rcases hg.where_ with e | e
    · exact absurd (e.symm.trans hv') hv
    · rw [e] at hv'; injection hv' with hv'; have := h2.lt; omega
/-- a row of rays, its pieces. -/
def Rw (w : World) (v : Value) (n : Nat) (x : Value) (L : List (List Int)) : Prop := ∃ us, Own w 0 29 x us ∧ us.length = L.length ∧ ∀ j u, us[j]? = some u → Pc w v n u (nt L j [])
theorem Rw.nil (w : World) (v : Value) (n : Nat) : Rw w v n (.slice none 0 0) [] := ⟨[], Own.nil _ _ _, rfl, fun j u h => by simp at h⟩
theorem Rw.slS {w : World} {v x : Value} {n : Nat} {L : List (List Int)} (h : Rw w v n x L) : SlS w 29 3 (Value.int .i64) x L := by
  obtain ⟨us, h1, h2, h3⟩ := h
  exact ⟨us, h1.slT, h2, fun j u hu => (h3 j u hu).slT⟩
theorem Rw.moves {w w' : World} {v x : Value} {n : Nat} {L : List (List Int)} (h : Rw w v n x L) (hk : ∀ g cs, x.ownBlock = some g → Blk w g 29 cs → Blk w' g 29 cs) (hp : ∀ u l, Pc w v n u l → Pc w' v n u l) : Rw w' v n x L := by
  obtain ⟨us, h1, h2, h3⟩ := h
  refine ⟨us, ?_, h2, fun j u hu => hp u _ (h3 j u hu)⟩
  rcases h1.form with ⟨rfl, rfl⟩ | ⟨g, cap, cur, rfl, hb, hh, hn, hm, hs, ht⟩
  · exact Own.nil _ _ _
  · subst hs; exact Own.of_blk hb (hk g cur rfl hh) hn hm ht
theorem Rw.vals {w : World} {v v' x : Value} {n n' : Nat} {L : List (List Int)} (h : Rw w v n x L) (hp : ∀ u l, Pc w v n u l → Pc w v' n' u l) : Rw w v' n' x L := by
  obtain ⟨us, h1, h2, h3⟩ := h
  exact ⟨us, h1, h2, fun j u hu => hp u _ (h3 j u hu)⟩
theorem Rw.lt {w : World} {v x : Value} {n : Nat} {L : List (List Int)} (h : Rw w v n x L) : ∀ k, x.ownBlock = some k → k < w.heap.size ∧ ∃ cs, Blk w k 29 cs := by
  intro k hk
  obtain ⟨us, h1, _⟩ := h
  rcases h1.form with ⟨rfl, rfl⟩ | ⟨g, cap, cur, rfl, hb, hh, hn, hm, hs, ht⟩
  · simp [Value.ownBlock] at hk
  · obtain rfl : g = k := by simpa [Value.ownBlock] using hk
    exact ⟨hh.lt, _, hh⟩
theorem blk_type {w : World} {g : Nat} {t t' : TypeId} {cs cs' : Array Value} (h : Blk w g t cs) (h' : Blk w g t' cs') : t = t' := by
  unfold Blk at h h'
  rw [h] at h'; injection h' with h'; injection h'
/-- the table while it is made: rows below number d are done, the d-th holds P, all others nothing; pc: pieces that are told. -/
structure MKx (rz : Nat → List (List Int)) (w0 w : World) (g d N : Nat) (P : List (List Int)) (pc : List (Value × List Int)) (cs : Array Value) (v : Value) (all : List Value) : Prop where
  below : Below w0.heap.size w0 w
  gw : w0.heap.size ≤ g
  blk : Blk w g 82 cs
  size : cs.size = 833
  cell : cs[832]? = some v
  own : Own w w0.heap.size 3 v all
  len : all.length ≤ N
  rows : ∀ i, i < 832 → ∃ x, cs[i]? = some x ∧ (i < d → Rw w v all.length x (rz i)) ∧ (i = d → Rw w v all.length x P) ∧ (d < i → x = .slice none 0 0)
  sep : ∀ i x y k, i < d → i < 832 → d < 832 → cs[i]? = some x → cs[d]? = some y → x.ownBlock = some k → y.ownBlock ≠ some k
  pcs : ∀ q ∈ pc, Pc w v all.length q.1 q.2
  base : ∀ i x k, i < 832 → cs[i]? = some x → x.ownBlock = some k → w0.heap.size ≤ k
section
variable {rz : Nat → List (List Int)} {w0 w w' w1 w2 : World} {g d N : Nat} {P : List (List Int)} {pc : List (Value × List Int)} {cs : Array Value} {v v' : Value} {all : List Value}
theorem MKx.mono {N' : Nat} (h : MKx rz w0 w g d N P pc cs v all) (hN : N ≤ N') : MKx rz w0 w g d N' P pc cs v all := { h with len := Nat.le_trans h.len hN }
theorem MKx.forget (h : MKx rz w0 w g d N P pc cs v all) : MKx rz w0 w g d N P [] cs v all := { h with pcs := fun q hq => by cases hq }
theorem MKx.go (h : MKx rz w0 w g d N P pc cs v all) (hb : Below w.heap.size w w') : MKx rz w0 w' g d N P pc cs v all := by
  have bl : ∀ k t cs, Blk w k t cs → Blk w' k t cs := fun k t cs hh => hh.below hb hh.lt
  refine { h with below := h.below.trans (hb.mono h.below.size), blk := bl _ _ _ h.blk, own := h.own.below hb, rows := fun i hi => ?_, pcs := fun q hq => (h.pcs q hq).move fun g cs => bl g 3 cs }
  obtain ⟨x, b1, b2, b3, b4⟩ := h.rows i hi
  exact ⟨x, b1, fun hh => (b2 hh).moves (fun g cs _ => bl g 29 cs) (fun u l hp => hp.move fun g cs => bl g 3 cs), fun hh => (b3 hh).moves (fun g cs _ => bl g 29 cs) (fun u l hp => hp.move fun g cs => bl g 3 cs), b4⟩
theorem MKx.row_lt (h : MKx rz w0 w g d N P pc cs v all) {i : Nat} (hi : i < 832) {x : Value} (hx : cs[i]? = some x) : ∀ k, x.ownBlock = some k → k < w.heap.size ∧ ∃ c, Blk w k 29 c := by
  obtain ⟨z, b1, b2, b3, b4⟩ := h.rows i hi
  rw [b1] at hx; injection hx with hx; subst hx
  rcases Nat.lt_trichotomy i d with e | e | e
  · exact (b2 e).lt
  · exact (b3 e).lt
  · rw [b4 e]; intro k hk; simp [Value.ownBlock] at hk
/-- the next row. -/
theorem MKx.next (h : MKx rz w0 w g d N P pc cs v all) (hP : P = rz d) : MKx rz w0 w g (d + 1) N [] [] cs v all := by
  refine { h.forget with rows := fun i hi => ?_, sep := fun i x y k hi hi2 hd hx hy hk => ?_ }
  · obtain ⟨x, b1, b2, b3, b4⟩ := h.rows i hi
    refine ⟨x, b1, fun hh => ?_, fun hh => ?_, fun hh => b4 (by omega)⟩
    · by_cases e : i < d
      · exact b2 e
      · have e2 : i = d := by omega
        have := b3 e2
        rw [hP, ← e2] at this; exact this
    · rw [b4 (by omega)]; exact Rw.nil _ _ _
  · obtain ⟨z, c1, _, _, c4⟩ := h.rows (d + 1) hd
    rw [c1] at hy; injection hy with hy
    rw [← hy, c4 (by omega)]; simp [Value.ownBlock]
/-- the row of all squares has grown, and lies in the table again. -/
theorem MKx.laid {l : List Int} (h : MKx rz w0 w g d N P pc cs v all) (hl : 0 < l.length) (hown : Own w1 w0.heap.size 3 v' (all ++ l.map (Value.int .i64))) (hg : Grew 3 w w1 v v' all.length)
    (ho : Off g w1 w2) (hB : Blk w2 g 82 (cs.setIfInBounds 832 v')) :
    ∃ gb cap, v' = .slice (some ⟨gb, 0, none⟩) (all.length + l.length) cap ∧ all.length + l.length ≤ cap ∧ MKx rz w0 w2 g d (N + l.length) P ((.slice (some ⟨gb, all.length, none⟩) l.length l.length, l) :: pc) (cs.setIfInBounds 832 v') v' (all ++ l.map (Value.int .i64)) := by
  have hlt : g < w.heap.size := h.blk.lt
  have vb : ∀ k, v.ownBlock = some k → w0.heap.size ≤ k ∧ k ≠ g := by
    intro k hk
    rcases h.own.form with ⟨rfl, _⟩ | ⟨g2, cap, cur, rfl, hb, hh, _⟩
    · simp [Value.ownBlock] at hk
    · obtain rfl : g2 = k := by simpa [Value.ownBlock] using hk
      exact ⟨hb, fun e => by subst e; have := blk_type hh h.blk; cases this⟩
  have b01 : Below w0.heap.size w w1 := hg.below (fun k hk => (vb k hk).1) h.below.size
  have off1 : ∀ k t c, k ≠ g → Blk w1 k t c → Blk w2 k t c := fun k t c hk hh => hh.off ho hk
  have b29 : ∀ k c, Blk w k 29 c → Blk w2 k 29 c := fun k c hh => by
    have hkg : k ≠ g := fun e => by subst e; have := blk_type hh h.blk; cases this
    refine off1 _ _ _ hkg ((hg.other k hh.lt (fun hv => ?_)).trans hh)
    rcases h.own.form with ⟨rfl, _⟩ | ⟨g2, cap, cur, rfl, hb, hh2, _⟩
    · simp [Value.ownBlock] at hv
    · obtain rfl : g2 = k := by simpa [Value.ownBlock] using hv
      have := blk_type hh hh2; cases this
  have b3 : ∀ k c, Blk w1 k 3 c → Blk w2 k 3 c := fun k c hh => by
    refine off1 _ _ _ (fun e => ?_) hh
    subst e
    have hg82 : Blk w1 k 82 cs := (hg.other k hlt (fun hv => (vb k hv).2 rfl)).trans h.blk
    have := blk_type hh hg82; cases this
  have hpc : ∀ u l', Pc w v all.length u l' → Pc w2 v' (all.length + l.length) u l' := fun u l' hp => (hp.grew hg).move b3
  have elen : (all ++ l.map (Value.int .i64)).length = all.length + l.length := by simp
  rcases hown.form with ⟨rfl, hx⟩ | ⟨gb, cap, cur, rfl, hb, hh, hn, hm, hs, ht⟩
  · have := congrArg List.length hx; rw [elen, List.length_nil] at this; omega
  · rw [elen] at hn ht
    refine ⟨gb, cap, by rw [elen], hn, ?_⟩
    have hne : ∀ i (z : Value), i < 832 → (cs.setIfInBounds 832 z)[i]? = cs[i]? := fun i z hi => by
      rw [Array.getElem?_setIfInBounds_ne (by omega)]
    refine { below := h.below.trans (b01.trans (ho.below (Below.refl _ _) h.gw)), gw := h.gw, blk := hB, size := by rw [Array.size_setIfInBounds]; exact h.size, cell := ?_, own := ?_, len := by rw [elen]; have := h.len; omega, rows := fun i hi => ?_, sep := fun i x y k hi hi2 hd hx hy hk => ?_, pcs := fun q hq => ?_, base := fun i x k hi hx hk => ?_ }
    · rw [Array.getElem?_setIfInBounds_self_of_lt (by rw [h.size]; omega)]
    · exact hown.move fun g' c _ hh' => b3 g' c hh'
    · obtain ⟨x, c1, c2, c3, c4⟩ := h.rows i hi
      rw [elen]
      refine ⟨x, (hne i _ hi).trans c1, fun hh' => ?_, fun hh' => ?_, c4⟩
      · obtain ⟨us, d1, d2, d3⟩ := c2 hh'
        exact ⟨us, d1.move fun g' c _ hh2 => b29 g' c hh2, d2, fun j u hu => hpc _ _ (d3 j u hu)⟩
      · obtain ⟨us, d1, d2, d3⟩ := c3 hh'
        exact ⟨us, d1.move fun g' c _ hh2 => b29 g' c hh2, d2, fun j u hu => hpc _ _ (d3 j u hu)⟩
    · rw [hne i _ hi2] at hx; rw [hne d _ hd] at hy; exact h.sep i x y k hi hi2 hd hx hy hk
    · rw [elen]
      rcases List.mem_cons.1 hq with rfl | hq
      · refine ⟨gb, all.length, l.length, cur, rfl, b3 _ _ hh, Nat.le_refl _, by omega, by omega, ?_, fun _ => Nat.le_refl _⟩
        have e2 : (cur.toList.drop all.length).take l.length = ((cur.toList.take (all.length + l.length)).drop all.length) := by rw [List.drop_take]; congr 1; omega
        rw [e2, ht, List.drop_left]
      · exact hpc _ _ (h.pcs q hq)
    · rw [hne i _ hi] at hx; exact h.base i x k hi hx hk
/-- a piece is put behind a row, and the row lies in the table again. -/
theorem MKx.put {l : List Int} {y y' u : Value} {us : List Value} (h : MKx rz w0 w g d N P pc cs v all) (hd : d < 832) (hy : cs[d]? = some y) (hu : (u, l) ∈ pc)
    (hus : us.length = P.length) (hpu : ∀ j u, us[j]? = some u → Pc w v all.length u (nt P j [])) (hown : Own w1 0 29 y' (us ++ [u])) (hg : Grew 29 w w1 y y' us.length)
    (ho : Off g w1 w2) (hB : Blk w2 g 82 (cs.setIfInBounds d y')) :
    MKx rz w0 w2 g d N (P ++ [l]) [] (cs.setIfInBounds d y') v all := by
  have hlt : g < w.heap.size := h.blk.lt
  have hyb : ∀ k, y.ownBlock = some k → w0.heap.size ≤ k := fun k hk => h.base d y k hd hy hk
  have yb : ∀ k c t, t ≠ 29 → Blk w k t c → y.ownBlock ≠ some k := fun k c t ht hh hk => by
    obtain ⟨_, c2, hc⟩ := h.row_lt hd hy k hk
    exact ht (blk_type hh hc)
  have b01 : Below w0.heap.size w w1 := hg.below hyb h.below.size
  have keep : ∀ k c t, t ≠ 29 → k ≠ g → Blk w k t c → Blk w2 k t c := fun k c t ht hk hh => Blk.off (w := w1) ((hg.other k hh.lt (yb k c t ht hh)).trans hh) ho hk
  have ng : ∀ k c t, t ≠ 82 → Blk w k t c → k ≠ g := fun k c t ht hh e => by subst e; exact ht (blk_type hh h.blk)
  have b3 : ∀ k c, Blk w k 3 c → Blk w2 k 3 c := fun k c hh => keep k c 3 (by decide) (ng k c 3 (by decide) hh) hh
  have hpc : ∀ u l', Pc w v all.length u l' → Pc w2 v all.length u l' := fun u l' hp => hp.move b3
  have hne : ∀ i, i ≠ d → (cs.setIfInBounds d y')[i]? = cs[i]? := fun i hi => by rw [Array.getElem?_setIfInBounds_ne (Ne.symm hi)]
  have heq : (cs.setIfInBounds d y')[d]? = some y' := Array.getElem?_setIfInBounds_self_of_lt (by rw [h.size]; omega)
  have y'b : ∀ k, y'.ownBlock = some k → y.ownBlock = some k ∨ k = w.heap.size := fun k hk => by
    rcases hg.where_ with e | e
    · exact .inl (e.symm.trans hk)
    · right; rw [e] at hk; injection hk with hk; exact hk.symm
  refine { below := h.below.trans (b01.trans (ho.below (Below.refl _ _) h.gw)), gw := h.gw, blk := hB, size := by rw [Array.size_setIfInBounds]; exact h.size, cell := by rw [hne 832 (by omega)]; exact h.cell, own := h.own.move fun k c _ hh => b3 k c hh, len := h.len, rows := fun i hi => ?_, sep := fun i x z k hi hi2 hd2 hx hz hk => ?_, pcs := fun q hq => (by cases hq), base := fun i x k hi hx hk => ?_ }
  · obtain ⟨x, c1, c2, c3, c4⟩ := h.rows i hi
    by_cases e : i = d
    · subst e
      refine ⟨y', heq, fun hh => absurd hh (by omega), fun _ => ⟨us ++ [u], ?_, by simp [hus], fun j u' hj => ?_⟩, fun hh => absurd hh (by omega)⟩
      · exact hown.move fun k c _ hh => hh.off ho (fun e => by
          subst e
          have hg82 : Blk w1 k 82 cs := (hg.other k hlt (yb k cs 82 (by decide) h.blk)).trans h.blk
          have := blk_type hh hg82; cases this)
      · rcases Nat.lt_trichotomy j us.length with hj2 | hj2 | hj2
        · rw [List.getElem?_append_left hj2] at hj
          have e1 : nt (P ++ [l]) j [] = nt P j [] := by unfold nt; simp [List.getD, List.getElem?_append_left (show j < P.length by omega)]
          rw [e1]; exact hpc _ _ (hpu j u' hj)
        · subst hj2
          rw [List.getElem?_append_right (Nat.le_refl _), Nat.sub_self] at hj
          simp at hj; subst hj
          have e1 : nt (P ++ [l]) us.length [] = l := by unfold nt; simp [List.getD, hus]
          rw [e1]; exact hpc _ _ (h.pcs _ hu)
        · rw [List.getElem?_eq_none (by simp; omega)] at hj; cases hj
    · refine ⟨x, (hne i e).trans c1, fun hh => (c2 hh).moves (fun k c hk hB2 => ?_) hpc, fun hh => absurd hh e, c4⟩
      have hky : y.ownBlock ≠ some k := h.sep i x y k hh hi hd c1 hy hk
      exact Blk.off (w := w1) ((hg.other k hB2.lt hky).trans hB2) ho (ng k c 29 (by decide) hB2)
  · rw [heq] at hz; injection hz with hz; subst hz
    rw [hne i (by omega)] at hx
    intro hk2
    rcases y'b k hk2 with e | e
    · exact h.sep i x y k hi hi2 hd hx hy hk e
    · have := (h.row_lt hi2 hx k hk).1; omega
  · by_cases e : i = d
    · subst e
      rw [heq] at hx; injection hx with hx; subst hx
      rcases y'b k hk with e | e
      · exact hyb k e
      · have := h.below.size; omega
    · rw [hne i e] at hx; exact h.base i x k hi hx hk
end
def MK (rz : Nat → List (List Int)) (w0 w : World) (g d N : Nat) (P : List (List Int)) (pc : List (Value × List Int)) : Prop := ∃ cs v all, MKx rz w0 w g d N P pc cs v all
end Go.Proofs.Ytpjocgebnodnoaa
