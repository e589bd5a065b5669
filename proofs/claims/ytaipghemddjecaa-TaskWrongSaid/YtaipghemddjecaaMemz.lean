import Derived.Test.YtaipghemddjecaaPlz
import Derived.WalkKit
import Derived.Lib.OthersKept
import Derived.Laws.RangeAny
namespace Go.Proofs.Ytaipghemddjecaa
open Go.RowKit
def Blk (w : World) (g : Nat) (t : TypeId) (cs : Array Value) : Prop := w.heap[g]? = some (.cells cs t (0, 0))
def Itr (w : World) (g : Nat) (s : ByteArray) (pos : Nat) : Prop := w.heap[g]? = some (.stringIter s pos)
section
variable {w w' : World} {g g' B pos p : Nat} {t t' : TypeId} {cs cs' : Array Value} {s s' : ByteArray}
theorem lt_of_heap {o : Obj} (h : w.heap[g]? = some o) : g < w.heap.size := by
  rcases Nat.lt_or_ge g w.heap.size with hlt | hge
  · exact hlt
  · rw [Array.getElem?_eq_none hge] at h; cases h
theorem Blk.lt (h : Blk w g t cs) : g < w.heap.size := lt_of_heap h
theorem Itr.lt (h : Itr w g s pos) : g < w.heap.size := lt_of_heap h
theorem Blk.cell (h : Blk w g t cs) (i : Nat) : w.cell? ⟨g, i, none⟩ = cs[i]? := by unfold Blk at h; simp [World.cell?, h]
theorem Blk.free (h : Blk w g t cs) (i : Nat) : w.frozen? ⟨g, i, none⟩ = false := by unfold Blk at h; simp [World.frozen?, h]
theorem Blk.new (w : World) (t : TypeId) (cs : Array Value) : Blk (w.alloc (.cells cs t)) w.heap.size t cs := by
  show (w.heap.push _)[w.heap.size]? = _
  simp
theorem Blk.alloc (h : Blk w g t cs) (o : Obj) : Blk (w.alloc o) g t cs := (Below.heap_alloc w o g h.lt).trans h
theorem Itr.alloc (h : Itr w g s pos) (o : Obj) : Itr (w.alloc o) g s pos := (Below.heap_alloc w o g h.lt).trans h
theorem Itr.new (w : World) (s : ByteArray) : Itr (w.iter s 0) w.heap.size s 0 := by
  show (w.heap.push _)[w.heap.size]? = _
  simp
theorem Blk.iter (h : Blk w g t cs) (s : ByteArray) (pos : Nat) : Blk (w.iter s pos) g t cs := by
  show (w.heap.push _)[g]? = _
  rw [Array.getElem?_push, if_neg (by have := h.lt; omega)]; exact h
theorem Blk.set (h : Blk w g t cs) (i : Nat) (u : Value) : Blk (w.setCell ⟨g, i, none⟩ u) g t (cs.setIfInBounds i u) := by
  unfold Blk at h ⊢
  simp [World.setCell, Array.getElem?_modify, h]
theorem Blk.below (h : Blk w g t cs) (hb : Below B w w') (hg : g < B) : Blk w' g t cs := (hb.block g hg).trans h
theorem Itr.below (h : Itr w g s pos) (hb : Below B w w') (hg : g < B) : Itr w' g s pos := (hb.block g hg).trans h
theorem Blk.at_ (h : Blk w g t cs) (hne : g ≠ p) : Blk (w.iterAt p s pos) g t cs := (Lib.iterAt_other w p g s pos hne).trans h
theorem Itr.at_ (h : Itr w g s pos) (pos' : Nat) : Itr (w.iterAt g s pos') g s pos' := Lib.iterAt_heap w g s pos pos' h
theorem below_iter {a : World} (h : Below B a w) (hB : B ≤ w.heap.size) (s : ByteArray) (pos : Nat) : Below B a (w.iter s pos) :=
  h.trans ⟨rfl, rfl, rfl, by show w.heap.size ≤ (w.heap.push _).size; rw [Array.size_push]; omega, fun k hk => by
    show (w.heap.push _)[k]? = _
    rw [Array.getElem?_push, if_neg (by omega)]⟩
end
end Go.Proofs.Ytaipghemddjecaa
