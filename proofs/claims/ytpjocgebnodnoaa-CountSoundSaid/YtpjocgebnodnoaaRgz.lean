import Derived.Test.YtpjocgebnodnoaaGwz
import Derived.Test.YtpjocgebnodnoaaSnz
import Derived.Deep.RegionHeld3
namespace Go.Proofs.Ytpjocgebnodnoaa
open Go.RowKit
set_option linter.unusedVariables false
set_option linter.unusedSimpArgs false
section
variable {P : Program} {ops : Array Oper} {Q : Exit → Act → World → Prop} {S : World → Prop} {nn : List Nat}
def wpAnyN (P : Program) (ops : Array Oper) (Q : Exit → Act → World → Prop) (S : World → Prop) (nn : List Nat) : Nat → Array Bool → Act → World → Prop
  | 0, listed, a, w => Region.ready .any ops listed = [] ∧ Q .normal a w
  | fuel + 1, listed, a, w =>
    (Region.ready .any ops listed = [] → Q .normal a w) ∧
    ∀ i ∈ Region.ready .any ops listed, wpOp P ops Q i (fun a' w' => (S w → nn.contains i = false → S w') ∧ wpAnyN P ops Q S nn fuel (listed.setIfInBounds i true) a' w') a w
theorem wpAny_of_N : ∀ (fuel : Nat) (listed : Array Bool) (a : Act) (w : World), wpAnyN P ops Q S nn fuel listed a w → wpAny P .any ops Q fuel listed a w
  | 0, _, _, _, h => h
  | fuel + 1, _, _, _, h => ⟨h.1, fun i hi => wpOp_mono (fun a' w' h' => wpAny_of_N fuel _ a' w' h'.2) (h.2 i hi)⟩
def lateB (ops : Array Oper) (nn : List Nat) (i : Nat) : Bool := nn.all fun j => j == i || match ops[j]? with | some o => o.after.toList.any (fun e => Region.binds .any e && e.on == i) | none => true
theorem wpAnyN_first {i : Nat} {oi : Oper} {v : Value} (hi : ops[i]? = some oi) (hsel : ∀ (j : Nat) (o : Oper) cs b, ops[j]? = some o → o.op ≠ .select cs b)
    (hQ : ∀ c a w, Q (.panic c) (a.put oi.dst v) w → Q (.panic c) a w) (hl : lateB ops nn i = true) :
    ∀ (fuel : Nat) (listed : Array Bool) (a : Act) (w : World),
      (∀ j oj, ops[j]? = some oj → j ≠ i → listed.getD j true = false → (∀ e ∈ oj.after, Region.binds .any e = true → e.on ≠ i) → oi.apart ops oj = true) →
      i ∈ Region.ready .any ops listed → YieldsIf P ops S oi v a → S w →
      wpAnyN P ops Q S nn fuel (listed.setIfInBounds i true) (a.put oi.dst v) w → wpAnyN P ops Q S nn (fuel + 1) listed a w := by
  intro fuel
  induction fuel with
  | zero =>
    intro listed a w _ hr hy hS H
    refine ⟨fun h => (by rw [h] at hr; cases hr), fun j hj => ?_⟩
    by_cases hji : j = i
    · subst hji; exact hy.wpOp hi hS ⟨fun _ _ => hS, H⟩
    · have := ready_mono hj hji
      rw [H.1] at this
      cases this
  | succ fuel ih =>
    intro listed a w hfree hr hy hS H
    refine ⟨fun h => (by rw [h] at hr; cases hr), fun j hj => ?_⟩
    by_cases hji : j = i
    · subst hji; exact hy.wpOp hi hS ⟨fun _ _ => hS, H⟩
    · have h1 := H.2 j (ready_mono hj hji)
      obtain ⟨hjun, oj, hoj, hall⟩ := mem_ready.1 hj
      have hnot : ∀ e ∈ oj.after, Region.binds .any e = true → e.on ≠ i := fun e he hb heq => by
        have h1 := hall e he hb
        have h0 := (mem_ready.1 hr).1
        rw [heq] at h1
        rcases Nat.lt_or_ge i listed.size with h' | h'
        · simp [h'] at h0 h1; rw [h0] at h1; cases h1
        · simp [Array.getElem?_eq_none h'] at h1
      have hnj : nn.contains j = false := by
        cases hc : nn.contains j with
        | false => rfl
        | true =>
          exfalso
          unfold lateB at hl
          rw [List.all_eq_true] at hl
          have h5 := hl j (by simpa using hc)
          rw [hoj, Bool.or_eq_true, List.any_eq_true] at h5
          rcases h5 with h5 | ⟨e, he, h6⟩
          · exact hji (by simpa using h5)
          · rw [Bool.and_eq_true] at h6
            exact hnot e (by simpa using he) h6.1 (by simpa using h6.2)
      have h2 := wpOp_putIf hoj (hfree j oj hoj hji hjun hnot) (fun cs b => hsel i oi cs b hi) (fun cs b => hsel j oj cs b hoj) hQ hy h1
      have hfree' : ∀ k ok, ops[k]? = some ok → k ≠ i → (listed.setIfInBounds j true).getD k true = false →
          (∀ e ∈ ok.after, Region.binds .any e = true → e.on ≠ i) → oi.apart ops ok = true := fun k ok hk hki hun hno => by
        refine hfree k ok hk hki ?_ hno
        by_cases hjk : j = k
        · subst hjk; exact hjun
        · rw [getD_set_ne true hjk] at hun; exact hun
      refine wpOp_mono (fun a' w' h3 => ⟨fun _ _ => h3.2.1 hS hnj, ih (listed.setIfInBounds j true) a' w' hfree' (ready_mono hr (Ne.symm hji)) h3.1 (h3.2.1 hS hnj) ?_⟩) h2
      rw [Array.setIfInBounds_comm _ _ hji]
      exact h3.2.2
theorem wpAnyN_pure {i : Nat} {oi : Oper} {v : Value} (hi : ops[i]? = some oi) (hsel : ∀ (j : Nat) (o : Oper) cs b, ops[j]? = some o → o.op ≠ .select cs b)
    (hQ : ∀ c a w, Q (.panic c) (a.put oi.dst v) w → Q (.panic c) a w) :
    ∀ (fuel : Nat) (listed : Array Bool) (a : Act) (w : World),
      (∀ j oj, ops[j]? = some oj → j ≠ i → listed.getD j true = false → (∀ e ∈ oj.after, Region.binds .any e = true → e.on ≠ i) → oi.apart ops oj = true) →
      i ∈ Region.ready .any ops listed → YieldsIf P ops (fun _ => True) oi v a→
      wpAnyN P ops Q S nn fuel (listed.setIfInBounds i true) (a.put oi.dst v) w → wpAnyN P ops Q S nn (fuel + 1) listed a w := by
  intro fuel
  induction fuel with
  | zero =>
    intro listed a w _ hr hy H
    refine ⟨fun h => (by rw [h] at hr; cases hr), fun j hj => ?_⟩
    by_cases hji : j = i
    · subst hji; exact hy.wpOp hi trivial ⟨fun h0 _ => h0, H⟩
    · have := ready_mono hj hji
      rw [H.1] at this
      cases this
  | succ fuel ih =>
    intro listed a w hfree hr hy H
    refine ⟨fun h => (by rw [h] at hr; cases hr), fun j hj => ?_⟩
    by_cases hji : j = i
    · subst hji; exact hy.wpOp hi trivial ⟨fun h0 _ => h0, H⟩
    · have h1 := H.2 j (ready_mono hj hji)
      obtain ⟨hjun, oj, hoj, hall⟩ := mem_ready.1 hj
      have hnot : ∀ e ∈ oj.after, Region.binds .any e = true → e.on ≠ i := fun e he hb heq => by
        have h1 := hall e he hb
        have h0 := (mem_ready.1 hr).1
        rw [heq] at h1
        rcases Nat.lt_or_ge i listed.size with h' | h'
        · simp [h'] at h0 h1; rw [h0] at h1; cases h1
        · simp [Array.getElem?_eq_none h'] at h1
      have h2 := wpOp_putIf hoj (hfree j oj hoj hji hjun hnot) (fun cs b => hsel i oi cs b hi) (fun cs b => hsel j oj cs b hoj) hQ hy h1
      have hfree' : ∀ k ok, ops[k]? = some ok → k ≠ i → (listed.setIfInBounds j true).getD k true = false →
          (∀ e ∈ ok.after, Region.binds .any e = true → e.on ≠ i) → oi.apart ops ok = true := fun k ok hk hki hun hno => by
        refine hfree k ok hk hki ?_ hno
        by_cases hjk : j = k
        · subst hjk; exact hjun
        · rw [getD_set_ne true hjk] at hun; exact hun
      refine wpOp_mono (fun a' w' h3 => ⟨h3.2.1, ih (listed.setIfInBounds j true) a' w' hfree' (ready_mono hr (Ne.symm hji)) h3.1 ?_⟩) h2
      rw [Array.setIfInBounds_comm _ _ hji]
      exact h3.2.2
def schedB (ops : Array Oper) (nn : List Nat) : List (Nat × Nat) → Array Bool → Bool
  | [], L => (Region.ready .any ops L).isEmpty
  | (i, 1) :: r, L => Region.free .any ops L i && (Region.ready .any ops L).contains i && lateB ops nn i && schedB ops nn r (L.setIfInBounds i true)
  | (i, 2) :: r, L => Region.free .any ops L i && (Region.ready .any ops L).contains i && schedB ops nn r (L.setIfInBounds i true)
  | (i, _) :: r, L => (match Region.ready .any ops L with | [j] => j == i | _ => false) && schedB ops nn r (L.setIfInBounds i true)
def wpSeq (P : Program) (ops : Array Oper) (Q : Exit → Act → World → Prop) (S : World → Prop) (nn : List Nat) : List (Nat × Nat) → Act → World → Prop
  | [], a, w => Q .normal a w
  | (i, 1) :: r, a, w => S w ∧ ∃ o v, ops[i]? = some o ∧ YieldsIf P ops S o v a ∧ wpSeq P ops Q S nn r (a.put o.dst v) w
  | (i, 2) :: r, a, w => ∃ o v, ops[i]? = some o ∧ YieldsIf P ops (fun _ => True) o v a ∧ wpSeq P ops Q S nn r (a.put o.dst v) w
  | (i, _) :: r, a, w => wpOp P ops Q i (fun a' w' => (nn.contains i = false → S w') ∧ wpSeq P ops Q S nn r a' w') a w
theorem ready_one {L : Array Bool} {i : Nat} (hr : (match Region.ready .any ops L with | [j] => j == i | _ => false) = true) : Region.ready .any ops L = [i] := by
  revert hr
  cases Region.ready .any ops L with
  | nil => simp
  | cons j t =>
    cases t with
    | nil => simp
    | cons k t => simp
theorem seq_sound (hs : Region.noSelect ops = true) (hQ : ∀ c a w, ¬ Q (.panic c) a w) : ∀ (r : List (Nat × Nat)) (L : Array Bool) (a : Act) (w : World), schedB ops nn r L = true → wpSeq P ops Q S nn r a w → wpAnyN P ops Q S nn r.length L a w
  | [], L, a, w, hB, h => ⟨by simpa [schedB] using hB, h⟩
  | (i, 1) :: r, L, a, w, hB, h => by
    simp only [schedB, Bool.and_eq_true] at hB
    obtain ⟨⟨⟨hf, hr⟩, hl⟩, hB⟩ := hB
    obtain ⟨hS, o, v, ho, hy, h⟩ := h
    exact wpAnyN_first ho (Region.noSelect_spec hs) (fun c a w h0 => absurd h0 (hQ c _ w)) hl r.length L a w (Region.free_spec ho hf) (by simpa using hr) hy hS (seq_sound hs hQ r _ _ _ hB h)
  | (i, 2) :: r, L, a, w, hB, h => by
    simp only [schedB, Bool.and_eq_true] at hB
    obtain ⟨⟨hf, hr⟩, hB⟩ := hB
    obtain ⟨o, v, ho, hy, h⟩ := h
    exact wpAnyN_pure ho (Region.noSelect_spec hs) (fun c a w h0 => absurd h0 (hQ c _ w)) r.length L a w (Region.free_spec ho hf) (by simpa using hr) hy (seq_sound hs hQ r _ _ _ hB h)
  | (i, 0) :: r, L, a, w, hB, h => by
    simp only [schedB, Bool.and_eq_true] at hB
    obtain ⟨hr, hB⟩ := hB
    have hr' := ready_one hr
    refine ⟨fun h0 => (by rw [hr'] at h0; cases h0), fun j hj => ?_⟩
    rw [hr'] at hj
    obtain rfl : j = i := by simpa using hj
    exact wpOp_mono (fun a' w' h' => ⟨fun _ => h'.1, seq_sound hs hQ r _ _ _ hB h'.2⟩) h
  | (i, n + 3) :: r, L, a, w, hB, h => by
    simp only [schedB, Bool.and_eq_true] at hB
    obtain ⟨hr, hB⟩ := hB
    have hr' := ready_one hr
    refine ⟨fun h0 => (by rw [hr'] at h0; cases h0), fun j hj => ?_⟩
    rw [hr'] at hj
    obtain rfl : j = i := by simpa using hj
    exact wpOp_mono (fun a' w' h' => ⟨fun _ => h'.1, seq_sound hs hQ r _ _ _ hB h'.2⟩) h
structure Sq (P : Program) (ops : Array Oper) (Q : Exit → Act → World → Prop) (S : World → Prop) (nn : List Nat) (r : List (Nat × Nat)) (a : Act) (w : World) : Prop where
  out : wpSeq P ops (NoPanic Q) S nn r a w
theorem drew_below (w : World) : Below w.heap.size w w.drew := (Below.refl _ _).drew
theorem sq_region {w : World} {id : Nat} {a : Act} {l : List Oper} (S : World → Prop) (nn : List Nat) (r : List (Nat × Nat)) (hm : P.follows .mixedOrders = true) (hs : Region.noSelect l.toArray = true) (hB : schedB l.toArray nn r (Array.replicate l.length false) = true) (hl : r.length = l.length)
    (h : ∀ w1, Below w.heap.size w w1 → Sq P l.toArray Q S nn r a w1) : (Code.region id l.toArray true).wp P Q a w := by
  refine wp_region_noPanic (wp_region_any hm ?_)
  have h1 := (h w.drew (drew_below w)).out
  have := seq_sound (Q := NoPanic Q) hs (fun c a w h => h) r _ a w.drew hB h1
  rw [hl] at this
  simpa using wpAny_of_N _ _ _ _ this
theorem sq_end {a : Act} {w : World} (h : Q .normal a w) : Sq P ops Q S nn [] a w := ⟨h⟩
variable {ts : Array Value} {df : List Deferred} {d : Tmp} {i : Nat} {o : Oper} {r : List (Nat × Nat)} {w : World}
theorem sq_take (v : Value) (hS : S w) (hi : ops[i]? = some o) (hr : ∀ w', S w' → (execOp (Act.eval ⟨ts, df⟩) o).run P w' = .ok (.value v) w') (hw : Region.wanted o (yielded ops ts) = true) (hd : o.dst = some d) (h : ∀ ts', ts.setIfInBounds d v = ts' → Sq P ops Q S nn r ⟨ts', df⟩ w) :
    Sq P ops Q S nn ((i, 1) :: r) ⟨ts, df⟩ w :=
  ⟨⟨hS, o, v, hi, .inl ⟨hw, hr⟩, by rw [hd]; exact (h _ rfl).out⟩⟩
theorem sq_pure (v : Value) (hi : ops[i]? = some o) (hr : ∀ w', (execOp (Act.eval ⟨ts, df⟩) o).run P w' = .ok (.value v) w') (hw : Region.wanted o (yielded ops ts) = true) (hd : o.dst = some d) (h : ∀ ts', ts.setIfInBounds d v = ts' → Sq P ops Q S nn r ⟨ts', df⟩ w) :
    Sq P ops Q S nn ((i, 2) :: r) ⟨ts, df⟩ w :=
  ⟨⟨o, v, hi, .inl ⟨hw, fun w' _ => hr w'⟩, by rw [hd]; exact (h _ rfl).out⟩⟩
def Only (K : Act → World → Prop) : Exit → Act → World → Prop := fun e a w => e = .normal ∧ K a w
theorem only_upon {a : Act} {K : Act → World → Prop} {x : Result Next} (h : o.upon P a (fun a w => Only K .normal a w) (Only K) x) : o.upon P a K Q x := by
  cases x with
  | ok n w' =>
    cases n <;> simp only [Oper.upon] at h ⊢
    case value => exact h.2
    case skip => exact h.2
    case defer => exact h.2
    case enter f args =>
      refine Calls.mono h fun e w'' he => ?_
      cases e with
      | returned u => exact he.2
      | panicked c => exact absurd he.1 (by simp)
      | outgrown => obtain ⟨_, _, h1, _⟩ := he; cases h1
    case row row args => exact Rows.mono h fun u w'' he => he.2
  | halt y w' =>
    cases y <;> simp only [Oper.upon] at h ⊢
    case panic u => exact absurd h.1 (by simp)
theorem sq_act (hi : ops[i]? = some o) (h : ∀ Q' : Exit → Act → World → Prop, (∀ a' w', (nn.contains i = false → S w') → Sq P ops Q S nn r a' w' → Q' .normal a' w') → wpList P ops Q' [o] ⟨ts, df⟩ w) :
    Sq P ops Q S nn ((i, 0) :: r) ⟨ts, df⟩ w := by
  refine ⟨?_⟩
  have h1 := h (Only fun a' w' => (nn.contains i = false → S w') ∧ wpSeq P ops (NoPanic Q) S nn r a' w') (fun a' w' h2 h3 => ⟨rfl, h2, h3.out⟩)
  unfold wpSeq wpOp
  simp only [hi]
  simp only [wpList] at h1
  split
  · rename_i hw
    rw [if_pos hw] at h1
    rcases h1 with h1 | ⟨_, _, _, h2, _⟩
    · exact .inl (only_upon h1)
    · cases h2
  · rename_i hw
    rw [if_neg hw] at h1
    exact h1.2
theorem act_end {Q' : Exit → Act → World → Prop} {a : Act} (h : Q' .normal a w) : wpList P ops Q' [] a w := h
theorem wl_call {Q' : Exit → Act → World → Prop} (f : FuncId) (args : Array Value) (he : (execOp (Act.eval ⟨ts, df⟩) o).run P w = .ok (.enter f args) w) (hw : Region.wanted o (yielded ops ts) = true)
    (hc : Calls P f args w fun e w' => ∃ v, e = .returned v ∧ Q' .normal ((⟨ts, df⟩ : Act).put o.dst v) w') : wpList P ops Q' [o] ⟨ts, df⟩ w := by
  unfold wpList
  rw [if_pos hw]
  refine .inl ?_
  unfold Oper.wp
  rw [he]
  refine Calls.mono hc fun e w' ⟨v, h1, h2⟩ => ?_
  subst h1
  exact h2
end
theorem u8_w (n : Int) : IntKind.u8.wrap n = n % 256 := by simp [IntKind.wrap, IntKind.signed, IntKind.bits]
theorem u32_w (n : Int) : IntKind.u32.wrap n = n % 4294967296 := by simp [IntKind.wrap, IntKind.signed, IntKind.bits]
section
variable {P : Program} {w : World} {o : Oper} {ev : Operand → Value} {g : FuncId}
theorem ex_shr {k yk : IntKind} (m n : Int) (h0 : 0 ≤ n) (h1 : n ≤ k.bits) (t t2 : TypeId) (x y : Operand) (ho : o.op = .binOp .shr t x y t2) (hx : ev x = .int k m) (hy : ev y = .int yk n) : (execOp ev o).run P w = .ok (.value (.int k (m / 2 ^ n.toNat))) w := by
  unfold execOp
  simp [ho, hx, hy, go_sem, shift_shr k yk m n h0 h1]
theorem ex_shl {k yk : IntKind} (m n : Int) (h0 : 0 ≤ n) (h1 : n ≤ k.bits) (t t2 : TypeId) (x y : Operand) (ho : o.op = .binOp .shl t x y t2) (hx : ev x = .int k m) (hy : ev y = .int yk n) : (execOp ev o).run P w = .ok (.value (.int k (k.wrap (m * 2 ^ n.toNat)))) w := by
  unfold execOp
  simp [ho, hx, hy, go_sem, shift_shl k yk m n h0 h1]
end
section
variable {w : World} {n : Nat} {v : Value}
theorem Sl.at_ {α : Type} {f : α → Value} {l : List α} (h : Sl w v (l.map f)) (d : α) {ad : Addr} {m c : Nat} (hv : v = .slice (some ad) m c) {i : Int} (h0 : 0 ≤ i) (h1 : i < (l.length : Int)) : w.cell? (ad.add i.toNat) = some (f (nt l i.toNat d)) := by
  obtain ⟨a, cap, h2, h3⟩ := Sl.get h d h0 h1
  rw [hv] at h2; injection h2 with h2; injection h2 with h2; subst h2; exact h3
theorem SlN.at_ {α : Type} {f : α → List Value} {l : List α} (hf : ∀ x, (f x).length = n) (h : SlN w n v l.length (l.flatMap f)) (d : α) {ad : Addr} {m c : Nat} (hv : v = .slice (some ad) m c) {i : Int} (h0 : 0 ≤ i) (h1 : i < (l.length : Int)) :
    ∀ j, j < n → w.cell? ((ad.add (i.toNat * n)).add j) = (f (nt l i.toNat d))[j]? := by
  obtain ⟨a, cap, h2, h3⟩ := SlN.get hf h d h0 h1
  rw [hv] at h2; injection h2 with h2; injection h2 with h2; subst h2; exact h3
end
section
variable {P : Program} {t e : TypeId} {bytes : Nat} {w : World} {ops : Array Oper} {rest : List Oper} {o : Oper} {a : Act} {Q : Exit → Act → World → Prop}
theorem app_src (E : ElemT P t e bytes) (B : Nat) (v v2 : Value) (xs ys : List Value) (hown : Own w B e v xs) (hs2 : Sl w v2 ys) (hne : 0 < ys.length) (h1 : ∀ u ∈ ys, u.oneCell' = true) (hlen : (xs.length + ys.length) * bytes ≤ 140737488355328) (hl : xs.length + ys.length ≤ maxLen) (hB : B ≤ w.heap.size)
    (hgd : o.guard = none) (s x : Operand) (ho : o.op = .call { callee := .builtin .append, args := #[s, x], argTypes := #[t, t] }) (hs : a.eval s = v) (hx : a.eval x = v2)
    (h : ∀ v' w', Own w' B e v' (xs ++ ys) → Below B w w' → (∀ g' t' cs, t' ≠ e → Blk w g' t' cs → Blk w' g' t' cs) → (∀ g' s p, Itr w g' s p → Itr w' g' s p) → wpList P ops Q rest (a.put o.dst v') w') : wpList P ops Q (o :: rest) a w := by
  obtain ⟨i, z, hi, hz, hz1, hz2, hzs⟩ := E.info
  rcases hs2 with ⟨rfl, h2⟩ | ⟨ad, c, rfl, hc1, hc2, hc⟩
  · rw [h2] at hne; cases hne
  · refine wpList_append_own w hgd s x t ho B e i z 1 bytes E.und hi hz hz1 hz2 hzs (by decide) v xs.length xs hs hown ad ys.length c ys hx (by simp) (fun j y hj => ?_) h1 hl hlen hB ?_
    · rw [hc j (List.getElem?_eq_some_iff.mp hj).1]; exact hj
    · intro v' w' h2 h3 _
      have hrow : ∀ k, v.ownBlock = some k → B ≤ k := fun k hk => (World.ownsRow.lt hown k hk).1
      refine h v' w' (by unfold Own; rw [List.length_append]; exact h2) ((Below.refl _ _).grown h3 hB hrow) (fun g' t' cs hne hb => ?_) (fun g' s p hb => ?_)
      · refine (h3.block g' hb.lt (fun he => ?_)).trans hb
        rcases hown.form with ⟨rfl, _⟩ | ⟨g2, cap, cur, rfl, _, hh, _⟩
        · simp [Value.ownBlock] at he
        · simp [Value.ownBlock] at he
          subst he
          unfold Blk at hh hb
          rw [hh] at hb; injection hb with hb; injection hb with _ ht; exact hne ht.symm
      · refine (h3.block g' hb.lt (fun he => ?_)).trans hb
        rcases hown.form with ⟨rfl, _⟩ | ⟨g2, cap, cur, rfl, _, hh, _⟩
        · simp [Value.ownBlock] at he
        · simp [Value.ownBlock] at he
          subst he
          unfold Blk at hh; unfold Itr at hb
          rw [hh] at hb; cases hb
end
end Go.Proofs.Ytpjocgebnodnoaa
