import Derived.Test.YtaipghemddjecaaTqz
import Derived.Test.YtaipghemddjecaaShelfz
import Derived.Maps.RangeWalk
import Derived.Sort.KeysCollected
import Derived.Sort.OwnSorted
namespace Go.Proofs.Ytaipghemddjecaa
open Go.RowKit
open Go.Maps (Keyed)
set_option linter.unusedVariables false
set_option linter.unusedSimpArgs false
set_option maxRecDepth 100000
def fnElem (v : Value) : Option (DataW Unit × List MemPlace) := match v with
  | .nilFunc => some (.lit (.int .i64 (-1)), [])
  | .func (.func n) a b => if a.size = 0 ∧ b.size = 0 then some (.lit (.int .i64 (n : Int)), []) else none
  | _ => none
theorem fnElem_inv {v : Value} {y : DataW Unit × List MemPlace} (h : fnElem v = some y) : ∃ c : Int, v = fnv c ∧ y.1 = .lit (.int .i64 c) := by
  unfold fnElem at h
  split at h
  · cases h; exact ⟨-1, rfl, rfl⟩
  · rename_i n a b
    split at h
    · rename_i hc
      obtain rfl : a = #[] := Array.eq_empty_of_size_eq_zero hc.1
      obtain rfl : b = #[] := Array.eq_empty_of_size_eq_zero hc.2
      cases h
      exact ⟨(n : Int), rfl, rfl⟩
    · cases h
  · cases h
def optN (i : Nat) : ByteArray := match i with
  | 0 => ⟨#[99, 97, 115, 116, 108, 101]⟩
  | 1 => ⟨#[101, 112]⟩
  | 2 => ⟨#[109, 97, 120, 115, 111, 108]⟩
  | 3 => ⟨#[114, 101, 116, 114, 111]⟩
  | 4 => ⟨#[115, 101, 116]⟩
  | 5 => ⟨#[115, 105, 100, 101]⟩
  | _ => ⟨#[116, 114, 121]⟩
def optF (i : Nat) : Nat := match i with
  | 0 => 18
  | 1 => 20
  | 2 => 15
  | 3 => 23
  | 4 => 12
  | 5 => 13
  | _ => 11
def keyB (i : Nat) : List UInt8 := (optN i).data.toList
def allO : List Nat := [0, 1, 2, 3, 4, 5, 6]
def mapD (L : List Nat) : DataW Unit := .map (L.map fun i => (.string (keyB i), .lit (.int .i64 (optF i : Int))))
def subs : List Nat → List (List Nat)
  | [] => [[]]
  | x :: l => subs l ++ (subs l).map (x :: ·)
theorem mem_subs {L l : List Nat} (h : L.Sublist l) : L ∈ subs l := by
  induction h with
  | slnil => simp [subs]
  | cons a _ ih => unfold subs; exact List.mem_append_left _ ih
  | cons_cons a _ ih => unfold subs; exact List.mem_append_right _ (List.mem_map.2 ⟨_, ih, rfl⟩)
def Opts (L : List Nat) : Prop := L.Sublist allO
theorem Opts.erase {L : List Nat} (h : Opts L) (n : Nat) : Opts (L.eraseIdx n) := (List.eraseIdx_sublist L n).trans h
theorem Opts.len {L : List Nat} (h : Opts L) : L.length ≤ 7 := h.length_le
theorem all_subs {p : List Nat → Bool} (hp : (subs allO).all p = true) {L : List Nat} (h : Opts L) : p L = true := List.all_eq_true.1 hp L (mem_subs h)
theorem names_apart {L : List Nat} (h : Opts L) (hne : L ≠ []) : apartB (L.map optN) = true := by
  have := all_subs (p := fun L => L.isEmpty || apartB (L.map optN)) (by decide +kernel) h
  cases L with
  | nil => exact absurd rfl hne
  | cons a l => simpa using this
theorem names_size {L : List Nat} : ∀ i, i < (L.map optN).length → (wd (L.map optN) i).size ≤ 1000 := by
  intro i hi
  have e : wd (L.map optN) i = optN (L[i]'(by simpa using hi)) := by unfold wd nt; rw [List.getD_eq_getElem?_getD]; simp at hi; simp [hi]
  rw [e]
  unfold optN
  split <;> decide
theorem names_find {L : List Nat} (h : Opts L) {i : Nat} (hi : i ∈ L) : L.find? (fun j => keyB j == keyB i) = some i := by
  have := all_subs (p := fun L => L.all fun i => decide (L.find? (fun j => keyB j == keyB i) = some i)) (by decide +kernel) h
  rw [List.all_eq_true] at this
  exact of_decide_eq_true (this i hi)
theorem names_del {L : List Nat} (h : Opts L) {n : Nat} (hn : n < L.length) : L.filter (fun j => !(keyB j == keyB (L.getD n 0))) = L.eraseIdx n := by
  have := all_subs (p := fun L => (List.range L.length).all fun n => decide (L.filter (fun j => !(keyB j == keyB (L.getD n 0))) = L.eraseIdx n)) (by decide +kernel) h
  rw [List.all_eq_true] at this
  exact of_decide_eq_true (this n (List.mem_range.2 hn))
theorem names_rise {L : List Nat} (h : Opts L) : (L.map keyB).Pairwise (fun a b => leB a b = true) := by
  have A : (allO.map keyB).Pairwise (fun a b => leB a b = true) := by decide +kernel
  exact A.sublist (h.map keyB)
theorem map_at {L : List Nat} (h : Opts L) {i : Nat} (hi : i ∈ L) (zd : DataW Unit) : (mapD L).atKey (.string (keyB i)) zd = .lit (.int .i64 (optF i : Int)) := by
  have F := names_find h hi
  unfold mapD DataW.atKey
  simp only [List.find?_map]
  rw [show ((fun p : Lit × DataW Unit => p.1.sameKey (.string (keyB i))) ∘ fun i => (Lit.string (keyB i), DataW.lit (.int .i64 (optF i : Int)))) = (fun j => keyB j == keyB i) from rfl, F]
  rfl
theorem map_del {L : List Nat} (h : Opts L) {n : Nat} (hn : n < L.length) : (mapD L).del (.string (keyB (L.getD n 0))) = mapD (L.eraseIdx n) := by
  have F := names_del h hn
  unfold mapD DataW.del
  simp only [List.filter_map]
  rw [show ((fun p : Lit × DataW Unit => !p.1.sameKey (.string (keyB (L.getD n 0)))) ∘ fun i => (Lit.string (keyB i), DataW.lit (.int .i64 (optF i : Int)))) = (fun j => !(keyB j == keyB (L.getD n 0))) from rfl, F]
theorem map_size (L : List Nat) : Maps.size (mapD L) = L.length := by simp [mapD, Maps.size]
theorem map_keys (L : List Nat) : strKeys (mapD L) = L.map keyB := by simp [mapD, strKeys, strOf]
theorem tk9 : Try.prog.underlying 9 = some .string := by kernel_rfl
theorem tm37 : Try.prog.underlying 37 = some (.map 9 42) := by kernel_rfl
theorem key9 (i : Nat) : keyOf Try.prog 9 (.string (optN i)) = some (.string (keyB i)) := by
  have hs : (optN i).size ≤ maxLen := by unfold optN maxLen; split <;> decide
  exact WideMaps.keyOf_string_mk (P := Try.prog) tk9 hs
theorem zero42 (w : World) : (zeroValue 42).run Try.prog w = .ok .nilFunc w := by kernel_rfl
abbrev OMap (w : World) (b : Nat) (L : List Nat) : Prop := w.ownsMap Try.prog 9 fnElem b 7 (mapD L)
theorem look_fn {w : World} {b : Nat} {L : List Nat} (h : OMap w b L) (hL : Opts L) {i : Nat} (hi : i ∈ L) :
    (Instr.lookup 37 (.map (some b)) (.string (optN i)) false).run Try.prog w = .ok (.func (.func (optF i)) #[] #[]) w := by
  obtain ⟨v, ps, h1, h2⟩ := World.ownsMap.lookup h (Maps.string_keyed tk9) tm37 (zero42 w) (show fnElem .nilFunc = some (.lit (.int .i64 (-1)), []) from rfl) (key9 i)
  rw [map_at hL hi] at h2
  obtain ⟨c, rfl, hc⟩ := fnElem_inv h2
  simp only [DataW.lit.injEq, Lit.int.injEq, true_and] at hc
  rw [← hc] at h1
  exact h1
theorem OMap.move {w w' : World} {b : Nat} {L : List Nat} (h : OMap w b L) (hb : w'.heap[b]? = w.heap[b]?) : OMap w' b L := by
  obtain ⟨es, clock, h1, h2⟩ := h
  exact ⟨es, clock, hb.trans h1, h2⟩
theorem OMap.lt {w : World} {b : Nat} {L : List Nat} (h : OMap w b L) : b < w.heap.size := World.ownsMap.lt h
theorem OMap.ne {w : World} {b g t : Nat} {L : List Nat} {cs : Array Value} (h : OMap w b L) (hb : Blk w g t cs) : b ≠ g := by
  rintro rfl
  obtain ⟨es, clock, h1, h2⟩ := h
  unfold Blk at hb
  rw [hb] at h1; cases h1
theorem ranges_move {w w' : World} {b r n cnt : Nat} {D : DataW Unit} {left : Lit → Bool} (h : w.ranges Try.prog 9 fnElem b r n D left cnt) (hb : w'.heap[b]? = w.heap[b]?) (hr : w'.heap[r]? = w.heap[r]?) : w'.ranges Try.prog 9 fnElem b r n D left cnt := by
  obtain ⟨es, clock, since, seen, c0, h1, h2, h3, h4, h5, h6⟩ := h
  exact ⟨es, clock, since, seen, c0, hb.trans h1, h2, h3, h4, hr.trans h5, h6⟩
structure Tw (g b B : Nat) (w w' : World) : Prop where
  os : w'.os = w.os
  tape : w'.tape = w.tape
  output : w'.output = w.output
  size : w.heap.size ≤ w'.heap.size
  block : ∀ k, k < B → k ≠ g → k ≠ b → w'.heap[k]? = w.heap[k]?
section
variable {g b B B' : Nat} {w w' w'' : World}
theorem Tw.refl (g b B : Nat) (w : World) : Tw g b B w w := ⟨rfl, rfl, rfl, Nat.le_refl _, fun _ _ _ _ => rfl⟩
theorem Tw.trans (h : Tw g b B w w') (h' : Tw g b B' w' w'') (hB : B ≤ B') : Tw g b B w w'' :=
  ⟨h'.os.trans h.os, h'.tape.trans h.tape, h'.output.trans h.output, Nat.le_trans h.size h'.size, fun k hk h1 h2 => (h'.block k (by omega) h1 h2).trans (h.block k hk h1 h2)⟩
theorem Tw.of_bex (h : Bex g B w w') (b : Nat) : Tw g b B w w' := ⟨h.os, h.tape, h.output, h.size, fun k hk h1 _ => h.block k hk h1⟩
theorem Tw.of_below (h : Below B w w') (g b : Nat) : Tw g b B w w' := ⟨h.os, h.tape, h.output, h.size, fun k hk _ _ => h.block k hk⟩
theorem Tw.of_grown {row : Option Nat} (h : w.grownBy w' row) (hB : B ≤ w.heap.size) (hr : ∀ k, row = some k → k = b ∨ B ≤ k) : Tw g b B w w' :=
  ⟨h.os, h.tape, h.output, h.size, fun k hk h1 h2 => h.block k (by omega) (fun e => by rcases hr k e.symm with q | q <;> omega)⟩
theorem Tw.of_off (h : Off g w w') (b B : Nat) : Tw g b B w w' := ⟨h.os, h.tape, h.output, Nat.le_of_eq h.size.symm, fun k _ h1 _ => h.block k h1⟩
theorem Tw.below (h : Tw g b B w w') (hg : B' ≤ g) (hb : B' ≤ b) (hB : B' ≤ B) : Below B' w w' := ⟨h.os, h.tape, h.output, h.size, fun k hk => h.block k (by omega) (by omega) (by omega)⟩
end
theorem sort_own {w : World} {B : Nat} {v : Value} {ss : List (List UInt8)} (h : Own w B 9 v (ss.map encStr)) (hne : ss ≠ []) (hl : ss.length ≤ 7) :
    Calls Try.prog 43 #[v] w fun e w' => e = .returned (.tuple #[]) ∧ Own w' B 9 v ((ss.mergeSort leB).map encStr) ∧ Below B w w' := by
  have hB0 : B ≤ w.heap.size ∨ w.heap.size < B := by omega
  rcases h.form with ⟨rfl, h0⟩ | ⟨g, cap, cur, rfl, hb, hh, hn, hm, hs, ht⟩
  · exact absurd (by simpa using h0) hne
  · rw [List.length_map] at hn ht ⊢
    refine (Try.slices_Sort_string g 0 cap ss w (Go.holds_of_block hh ht) hh.lt (by omega)).mono ?_
    rintro e w' ⟨rfl, n, os, rfl⟩
    have L : (ss.mergeSort leB).length = ss.length := List.length_mergeSort ss
    refine ⟨rfl, ?_, ?_⟩
    · have O := Go.ownsRow_sorted (n := n) (os := os) (ss := ss) (ts := ss.mergeSort leB) (base := B) L hb hh hn hm (by rw [hs]; omega)
      unfold Own
      rw [List.length_map, L]
      exact O
    · have G := Go.grownBy_sorted (w := w) (g := g) (n := n) (os := os) (ss.mergeSort leB).toArray
      exact ⟨G.os, G.tape, G.output, G.size, fun k hk => G.block k (by have := hh.lt; omega) (fun e => by injection e with e; omega)⟩
end Go.Proofs.Ytaipghemddjecaa
