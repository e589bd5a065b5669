import Derived.Test.YtpjocgebnodnoaaRsz
namespace Go.Proofs.Ytpjocgebnodnoaa
open Go.RowKit
theorem off_keeps {w w' : World} {g : Nat} {t e : TypeId} {cs : Array Value} (ho : Off g w w') (hg : Blk w g t cs) (hne : t ≠ e) : ∀ g' cs', Blk w g' e cs' → Blk w' g' e cs' := fun g' cs' hh => hh.off ho (by
  rintro rfl
  unfold Blk at hh hg
  rw [hh] at hg; injection hg with hg; injection hg with _ ht; exact hne ht.symm)
theorem OwnS.off {α : Type} {w w' : World} {B g : Nat} {e e' t : TypeId} {f : α → Value} {v : Value} {L : List (List α)} {cs : Array Value} (h : OwnS w B e e' f v L) (ho : Off g w w') (hg : Blk w g t cs) (hne : t ≠ e ∧ t ≠ e') : OwnS w' B e e' f v L :=
  h.moves (off_keeps ho hg hne.1) (off_keeps ho hg hne.2)
theorem SlS.off {α : Type} {w w' : World} {g : Nat} {e e' t : TypeId} {f : α → Value} {v : Value} {L : List (List α)} {cs : Array Value} (h : SlS w e e' f v L) (ho : Off g w w') (hg : Blk w g t cs) (hne : t ≠ e ∧ t ≠ e') : SlS w' e e' f v L :=
  h.moves (off_keeps ho hg hne.1) (off_keeps ho hg hne.2)
end Go.Proofs.Ytpjocgebnodnoaa
