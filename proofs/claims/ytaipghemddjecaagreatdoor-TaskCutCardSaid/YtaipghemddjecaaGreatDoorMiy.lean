import Derived.Test.YtaipghemddjecaaGreatDoorProg
namespace Go.Proofs.YtaipghemddjecaaGreatDoor
abbrev Ii(n:Int):Value:=.int .i64 n
abbrev Pg(g i:Nat):Value:=.pointer (some ⟨g,i,none⟩)
theorem Ia {α β:Type} {x:Option α} {f:α→Option β} {b:β} (h:x.bind f=some b):∃a,x=some a∧f a=some b:=Option.bind_eq_some_iff.mp h
end Go.Proofs.YtaipghemddjecaaGreatDoor
