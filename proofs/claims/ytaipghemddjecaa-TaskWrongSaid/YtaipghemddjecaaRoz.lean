import Derived.Test.YtaipghemddjecaaFvz
import Derived.Test.YtaipghemddjecaaZqz
import Derived.Test.YtaipghemddjecaaR1wz
namespace Go.Proofs.Ytaipghemddjecaa
open Go.RowKit
set_option linter.unusedVariables false
set_option linter.unusedSimpArgs false
abbrev RS := List Int × Int × Int × ByteArray × Int × ByteArray
def stepR (k : Nat) (s : RS) (c : Int) : Option (Bool × RS) :=
  if s.2.1 = 39 then i_roll_words.f s.1 s.2.1 s.2.2.1 s.2.2.2.1 s.2.2.2.2.1 s.2.2.2.2.2 c
  else if s.2.1 = 50 then i_roll_blank.f s.1 s.2.1 s.2.2.1 s.2.2.2.1 s.2.2.2.2.1 s.2.2.2.2.2 c
  else if s.2.1 = 59 then i_roll_letter.f s.1 s.2.1 s.2.2.1 s.2.2.2.1 s.2.2.2.2.1 s.2.2.2.2.2 c
  else if s.2.1 = 75 then i_roll_file.f s.1 s.2.1 s.2.2.1 s.2.2.2.1 s.2.2.2.2.1 s.2.2.2.2.2 c
  else if s.2.1 = 82 then i_roll_rank.f k s.1 s.2.1 s.2.2.1 s.2.2.2.1 s.2.2.2.2.1 s.2.2.2.2.2 c
  else none
def rdL (k : Nat) (t : ByteArray) (s : RS) (p : Nat) : Option (List Int × Int × Int) := i_roll_Read.l0 k t s.1 s.2.1 s.2.2.1 s.2.2.2.1 s.2.2.2.2.1 s.2.2.2.2.2 p
section
variable {B : List Int} {sd m : Int} {w f : ByteArray}
def overB (t : ByteArray) : Bool := decide (bt t (t.size - 1) = 107) || (decide (49 ≤ bt t (t.size - 1)) && decide (bt t (t.size - 1) ≤ 56))
end
end Go.Proofs.Ytaipghemddjecaa
