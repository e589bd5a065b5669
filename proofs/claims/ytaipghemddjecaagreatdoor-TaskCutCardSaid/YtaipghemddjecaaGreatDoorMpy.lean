import Derived.Test.YtaipghemddjecaaGreatDoorPly
import Derived.Laws.RangeAny
import Derived.Lib.DecodeN
namespace Go.Proofs.YtaipghemddjecaaGreatDoor
set_option maxHeartbeats 40000000
set_option maxRecDepth 100000
open Go.RowKit
def jh(m:Int):Bool:=decide (m≠0 ∧ -6≤m∧m≤6)
def Vu(k s:Int):Int:=if k<1∨6<k then 0 else if s=0 then k else if s=1 then -k else 0
def Kp:List Nat:=[80,78,66,82,81,75,112,110,98,114,113,107]
def kL:List Nat:=[9817,9816,9815,9814,9813,9812,9823,9822,9821,9820,9819,9818]
def QbZ:ByteArray:=⟨#[80,78,66,82,81,75,112,110,98,114,113,107]⟩
def QfJ:ByteArray:=⟨#[226,153,153,226,153,152,226,153,151,226,153,150,226,153,149,226,153,148,226,153,159,226,153,158,226,153,157,226,153,156,226,153,155,226,153,154]⟩
structure RText (s:ByteArray) (n:Nat) (l:List Nat):Prop where
  size:s.size=n*l.length
  dec:∀ k,k<l.length→Utf8.decode s (n*k)=(l.getD k 0,n)
  pos:0<n
  few:l.length≤12
theorem JG:RText QbZ 1 Kp:=⟨rfl,by decide +kernel,by decide,by decide⟩
theorem kN:RText QfJ 3 kL:=⟨rfl,by decide +kernel,by decide,by decide⟩
def Jg(c:Int):List Nat→Nat→Int
  | [],_=>0
  |x::l,i=>if (x:Int)=c then Vu ((i%6:Nat)+1) ((i/6:Nat)) else Jg c l (i+1)
def XT(c:Int):Int:=if Jg c Kp 0=0 then Jg c kL 0 else Jg c Kp 0
def QfK(m:Int):Int:=if 0<m then m-1 else 5-m
def QX(m:Int):ByteArray:=if m=0∨m < -6∨6<m then ⟨#[]⟩ else Utf8.encode (Kp.getD (QfK m).toNat 0:Nat)
theorem qQ{m:Int}(h:m < -6∨6<m):QX m=⟨#[]⟩:=by unfold QX;rw [if_pos (by omega)]
def ofZ(t:ByteArray):Int:=if t.size=0 then 0 else if (Utf8.decode t 0).2<t.size then 0 else XT (Utf8.decode t 0).1
theorem jn{c:Int}{l:List Nat}{k:Nat}(h:k<l.length)(hc:((l.getD k 0:Nat):Int)≠c):Jg c (l.drop k) k=Jg c (l.drop (k+1)) (k+1):=by
  rw [List.drop_eq_getElem_cons h,Jg,if_neg]
  rw [List.getD_eq_getElem?_getD,List.getElem?_eq_getElem h] at hc
  exact hc
theorem jQ{c:Int}{l:List Nat}{k:Nat}(h:k<l.length)(hc:((l.getD k 0:Nat):Int)=c):Jg c (l.drop k) k=Vu ((k:Int)%6+1) ((k:Int)/6):=by
  rw [List.drop_eq_getElem_cons h,Jg,if_pos]
  · rfl
  · rw [List.getD_eq_getElem?_getD,List.getElem?_eq_getElem h] at hc
    exact hc
theorem jR{c:Int}{l:List Nat}{k:Nat}(h:l.length≤k):Jg c (l.drop k) k=0:=by
  rw [List.drop_eq_nil_of_le h,Jg]
theorem jZ{c:Int}:∀ (l:List Nat) (i:Nat),Jg c l i≠0 → ∃ k,k<l.length∧((l.getD k 0:Nat):Int)=c∧Jg c l i=Vu (((i+k)%6:Nat)+1) ((i+k)/6:Nat)
  | [],_,h=>absurd rfl h
  |x::l,i,h=>by
    unfold Jg at h
    by_cases hx:(x:Int)=c
    · exact ⟨0,by simp,by simpa using hx,by unfold Jg;rw [if_pos hx];rfl⟩
    · rw [if_neg hx] at h
      obtain ⟨k,h1,h2,h3⟩:=jZ l (i+1) h
      refine ⟨k+1,by simp;omega,by simpa using h2,?_⟩
      unfold Jg;rw [if_neg hx,h3,show i+1+k=i+(k+1) by omega]
theorem xt(t:ByteArray):-6≤ofZ t∧ofZ t≤6:=by
  have mk:∀ a b:Int,-6≤Vu a b∧Vu a b≤6:=fun a b=>by unfold Vu;(repeat' split) <;> omega
  have am:∀ (c:Int) (l:List Nat) (i:Nat),-6≤Jg c l i∧Jg c l i≤6:=fun c l i=>by
    by_cases h:Jg c l i=0
    · omega
    · obtain ⟨k,_,_,h3⟩:=jZ l i h;rw [h3];exact mk _ _
  unfold ofZ XT
  repeat' split
  all_goals first|omega|exact am _ _ _
end Go.Proofs.YtaipghemddjecaaGreatDoor
