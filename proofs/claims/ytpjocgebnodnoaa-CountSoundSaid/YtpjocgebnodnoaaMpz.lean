import Derived.Test.YtpjocgebnodnoaaPlz
import Derived.Laws.RangeAny
import Derived.Lib.DecodeN
namespace Go.Proofs.Ytpjocgebnodnoaa
open Go.RowKit
def kindZ (m : Int) : Int := if m = 0 ∨ m < -6 ∨ 6 < m then 0 else if 0 < m then m else -m
def sideZ (m : Int) : Int := if m = 0 ∨ m < -6 ∨ 6 < m then -1 else if 0 < m then 0 else 1
def manB (m : Int) : Bool := decide (m ≠ 0 ∧ -6 ≤ m ∧ m ≤ 6)
def makeZ (k s : Int) : Int := if k < 1 ∨ 6 < k then 0 else if s = 0 then k else if s = 1 then -k else 0
def otherZ (s : Int) : Int := if s = 0 then 1 else if s = 1 then 0 else -1
end Go.Proofs.Ytpjocgebnodnoaa
