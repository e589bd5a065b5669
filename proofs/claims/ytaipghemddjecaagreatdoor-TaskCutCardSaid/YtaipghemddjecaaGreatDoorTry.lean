import Derived.Test.YtaipghemddjecaaGreatDoorT2wy
import Derived.Test.YtaipghemddjecaaGreatDoorZqy
import Derived.Test.YtaipghemddjecaaGreatDoorFvy
namespace Go.Proofs.YtaipghemddjecaaGreatDoor
set_option maxHeartbeats 40000000
set_option maxRecDepth 100000
open Go.RowKit
set_option linter.unusedVariables false
set_option linter.unusedSimpArgs false
structure TS where
  t:ByteArray
  a:Int
  e:Int
  b:List Int
  tu:Int
  ca:Int
  ep:Int
  ki:Int
  go:Int
  n:Int
  hf:Bool
  tr:Bool
  se:Bool
  mx:Int
  rt:Int
  sd:Int
  le:Value
abbrev TT:=ByteArray×Int×Int×List Int×Int×Int×Int×Int×Int×Int×Bool×Bool×Bool×Int×Int×Int×Value
def TS.out(s:TS):TT:=(s.t,s.a,s.e,s.b,s.tu,s.ca,s.ep,s.ki,s.go,s.n,s.hf,s.tr,s.se,s.mx,s.rt,s.sd,s.le)
def TS.at_(s:TS)(x:Int×Int×Int):TS:={ s with a:=x.1,e:=x.2.2 }
def Qx(w:ByteArray)(s:TS):TS:=if s.e=0 then s.at_ (Jv s.t s.a w) else s
def QS(ws:List ByteArray)(s:TS):Int×TS:=if s.e=0 then ((QU s.t s.a ws).2.1,s.at_ (QU s.t s.a ws)) else (-1,s)
def Kr(least most:Int)(s:TS):Int×TS:=if s.e=0 then ((JM s.t s.a least most).2.1,s.at_ (JM s.t s.a least most)) else (0,s)
def lfZ(t:ByteArray)(a:Int):Int:=Lib.indexByte (t.data.toList.drop a.toNat) 10
def Jl(t:ByteArray)(a:Int):ByteArray×Int×Int×Int:=if lfZ t a<0 then (t.extract a.toNat t.size,(t.size:Int),0,1) else (t.extract a.toNat (a+lfZ t a).toNat,a+lfZ t a+1,0,0)
def ZV(rd:ByteArray→List Int×Int×Int)(s:TS):TS:=if s.e=0 then
    if (rd (Jl s.t s.a).1).2.2=2 then { s with a:=s.a+(rd (Jl s.t s.a).1).2.1,e:=2 }
    else if (Jl s.t s.a).2.2.2=0 then
      (if (rd (Jl s.t s.a).1).2.2=0 then { s with b:=(rd (Jl s.t s.a).1).1,a:=(Jl s.t s.a).2.1,e:=(Jl s.t s.a).2.2.2 } else { s with a:=s.a+(rd (Jl s.t s.a).1).2.1,e:=2 })
    else { s with a:=(Jl s.t s.a).2.1,e:=(Jl s.t s.a).2.2.2 }
  else s
structure TS.ok (s:TS):Prop where
  t:s.t.size≤1000
  a0:0≤s.a
  a1:s.a≤s.t.size
theorem VM(s:TS)(w:ByteArray)(hs:s.ok)(hw:w.size≤1000):Qk.f 30000 s.t s.a s.e s.b s.tu s.ca s.ep s.ki s.go s.n s.hf s.tr s.se s.mx s.rt s.sd s.le w=some (Qx w s).out:=by
  unfold Qk.f Qx
  by_cases h:s.e=0
  · rw [if_pos h,if_pos h,jb hs.t hw (by omega)];rfl
  · rw [if_neg h,if_neg h];rfl
theorem Qaf(s:TS)(ws:List ByteArray)(hs:s.ok)(hn:ws.length≤100)(hw:∀ i,i<ws.length→(wd ws i).size≤1000){k:Nat}(hk:20000<k):Qt.f k s.t s.a s.e s.b s.tu s.ca s.ep s.ki s.go s.n s.hf s.tr s.se s.mx s.rt s.sd s.le ws=some ((QS ws s).1,(QS ws s).2.out):=by
  unfold Qt.f QS
  by_cases h:s.e=0
  · rw [if_pos h,if_pos h,(QbU hs.t hn hw hk).1];rfl
  · rw [if_neg h,if_neg h];rfl
theorem Qfl(s:TS)(l m:Int)(hs:s.ok):Jf.f 30000 s.t s.a s.e s.b s.tu s.ca s.ep s.ki s.go s.n s.hf s.tr s.se s.mx s.rt s.sd s.le l m=some ((Kr l m s).1,(Kr l m s).2.out):=by
  unfold Jf.f Kr
  have:=hs.t
  by_cases h:s.e=0
  · rw [if_pos h,if_pos h,(kJ hs.t (k:=30000) (by omega)).1];rfl
  · rw [if_neg h,if_neg h];rfl
theorem xZ:∀ (l:List UInt8) (c:UInt8),-1≤Lib.indexByte l c∧Lib.indexByte l c<l.length
  | [],c=>by unfold Lib.indexByte;simp
  |x::l,c=>by
    have:=xZ l c
    unfold Lib.indexByte
    simp only [List.length_cons]
    (repeat' split) <;> omega
theorem Qae{t:ByteArray}{a:Int}(h0:0≤a)(h1:a≤t.size):-1≤lfZ t a∧a+lfZ t a<t.size:=by
  have:=xZ (t.data.toList.drop a.toNat) 10
  have hl:(t.data.toList.drop a.toNat).length=t.size-a.toNat:=by simp
  unfold lfZ
  omega
theorem QcU{t:ByteArray}{a:Int}(ht:t.size≤1000)(h0:0≤a)(h1:a≤t.size):ZH.f t a=some (Jl t a):=by
  unfold ZH.f Jl
  rw [(qh (t:=t) (a:=a) h0 h1).1]
  simp only [Option.bind_some,if_true]
  rw [if_pos h0,if_pos h1]
  have hx:ixB (t.extract a.toNat t.size) 10=lfZ t a:=by
    unfold ixB lfZ
    rw [show ((10:Int).toNat.toUInt8)=(10:UInt8) from rfl]
    congr 1
    have e:(t.extract a.toNat t.size).data.toList=(t.data.toList.take t.size).drop a.toNat:=by
      simp [ByteArray.data_extract,List.drop_take]
    rw [e,List.take_of_length_le (by simp)]
  rw [hx]
  have b:=Qae h0 h1
  generalize lfZ t a=v at b
  by_cases hv:v<0
  · rw [if_pos hv,if_pos hv]
  · rw [if_neg hv,if_neg hv,w64 (x:=a+v) (by omega) (by omega),if_pos (by omega),if_pos (by omega),w64 (by omega) (by omega)]
theorem VQ{t:ByteArray}{a:Int}(h0:0≤a)(h1:a≤t.size):a+(Jl t a).1.size≤t.size:=by
  have b:=Qae h0 h1
  unfold Jl
  split
  · simp;omega
  · simp;omega
theorem Qen(s:TS)(hs:s.ok):QT.f 30000 s.t s.a s.e s.b s.tu s.ca s.ep s.ki s.go s.n s.hf s.tr s.se s.mx s.rt s.sd s.le 48=some (ZV rdZ s).out:=by
  unfold QT.f ZV
  by_cases h:s.e=0
  · have L:=VQ hs.a0 hs.a1
    have b:=xH.bd (Jl s.t s.a).1
    have:=hs.t;have:=hs.a0;have:=hs.a1
    rw [if_pos h,if_pos h,QcU hs.t hs.a0 hs.a1]
    simp only [Option.bind_some]
    rw [if_pos trivial,QdP _ (by omega) (by omega)]
    simp only [Option.bind_some]
    rw [w64 (x:=s.a+(rdZ (Jl s.t s.a).1).2.1) (by omega) (by omega)]
    by_cases h2:(rdZ (Jl s.t s.a).1).2.2=2
    · rw [if_pos h2,if_pos h2,h2];rfl
    · rw [if_neg h2,if_neg h2]
      by_cases h3:(Jl s.t s.a).2.2.2=0
      · rw [if_pos h3,if_pos h3]
        by_cases h4:(rdZ (Jl s.t s.a).1).2.2=0
        · rw [if_pos h4,if_pos h4];rfl
        · rw [if_neg h4,if_neg h4];rfl
      · rw [if_neg h3,if_neg h3];rfl
  · rw [if_neg h,if_neg h];rfl
theorem Qeo(s:TS)(hs:s.ok):QT.f 30000 s.t s.a s.e s.b s.tu s.ca s.ep s.ki s.go s.n s.hf s.tr s.se s.mx s.rt s.sd s.le 49=some (ZV rlZ s).out:=by
  unfold QT.f ZV
  by_cases h:s.e=0
  · have L:=VQ hs.a0 hs.a1
    have b:=xK.bd (Jl s.t s.a).1
    have:=hs.t;have:=hs.a0;have:=hs.a1
    rw [if_pos h,if_pos h,QcU hs.t hs.a0 hs.a1]
    simp only [Option.bind_some]
    rw [if_neg (by decide),if_pos trivial,Qea _ (by omega) (by omega)]
    simp only [Option.bind_some]
    rw [w64 (x:=s.a+(rlZ (Jl s.t s.a).1).2.1) (by omega) (by omega)]
    by_cases h2:(rlZ (Jl s.t s.a).1).2.2=2
    · rw [if_pos h2,if_pos h2,h2];rfl
    · rw [if_neg h2,if_neg h2]
      by_cases h3:(Jl s.t s.a).2.2.2=0
      · rw [if_pos h3,if_pos h3]
        by_cases h4:(rlZ (Jl s.t s.a).1).2.2=0
        · rw [if_pos h4,if_pos h4];rfl
        · rw [if_neg h4,if_neg h4];rfl
      · rw [if_neg h3,if_neg h3];rfl
  · rw [if_neg h,if_neg h];rfl
def caB(i:Nat):ByteArray:=(⟨#[75,81,107,113]⟩:ByteArray).extract i (i+1)
def nlB:ByteArray:=⟨#[10]⟩
def caL(fr:Nat):List ByteArray:=(List.range' fr (4-fr)).map caB
def caW(fr:Nat)(any:Bool):List ByteArray:=if any then caL fr++[nlB] else caL fr
def caF:Nat→Nat→Bool→TS→TS
  |0,_,_,s=>s
  |d+1,fr,any,s=>if (QU s.t s.a (caW fr any)).2.2=0 then
      (if (QU s.t s.a (caW fr any)).2.1=4-(fr:Int) then { s with a:=(QU s.t s.a (caW fr any)).1-1,e:=0 }
      else caF d (fr+(QU s.t s.a (caW fr any)).2.1.toNat+1) true { s with a:=(QU s.t s.a (caW fr any)).1,e:=0,ca:=Go.bits .or .i64 s.ca (2^(fr+(QU s.t s.a (caW fr any)).2.1.toNat)) })
    else s.at_ (QU s.t s.a (caW fr any))
def Jo(s:TS):TS:=if s.e=0 then caF 5 0 false s else s
theorem zU(fr:Nat):(caL fr).length=4-fr:=by simp [caL]
theorem Qfm(s:TS)(fr i:Int):∀ (d x k:Nat) (ws:List ByteArray),x+d=4→ws.length+d≤4→Qj.l1 (k+d) fr i s.t s.a s.e s.b s.tu s.ca s.ep s.ki s.go s.n s.hf s.tr s.se s.mx s.rt s.sd s.le ws x=Qj.l1 k fr i s.t s.a s.e s.b s.tu s.ca s.ep s.ki s.go s.n s.hf s.tr s.se s.mx s.rt s.sd s.le (ws++(List.range' x d).map caB) 4
  |0,x,k,ws,h,_=>by
    obtain rfl:x=4:=by omega
    simp
  |d+1,x,k,ws,h,hw=>by
    rw [show k+(d+1)=(k+d)+1 by omega,Qj.l1,w64 (x:=(x:Int)+1) (by omega) (by omega),if_pos (by omega),if_pos (by omega),if_pos (by omega),if_pos (by omega),if_pos (by omega)]
    rw [show (x:Int)+1=((x+1:Nat):Int) by omega,Int.toNat_natCast,Int.toNat_natCast]
    have ih:=Qfm s fr i d (x+1) k (ws++[caB x]) (by omega) (by simp;omega)
    rw [show (⟨#[75,81,107,113]⟩:ByteArray).extract x (x+1)=caB x from rfl,ih,List.append_assoc]
    rfl
theorem QfZ:∀ fr:Fin 5,∀ n:Fin 5,n.val<(caW fr.val true).length→((nt (caW fr.val true) n.val ByteArray.empty).toList=([10]:List UInt8)↔n.val=4-fr.val):=by decide +kernel
theorem Qep:∀ n:Fin 4,¬ (nt (caW 0 false) n.val ByteArray.empty).toList=([10]:List UInt8):=by decide +kernel
theorem QcV:∀ fr:Fin 5,Jq (caW fr.val true)=true:=by decide +kernel
theorem Qbf:Jq (caW 0 false)=true:=by decide +kernel
theorem qs(fr:Nat)(any:Bool):(caW fr any).length=4-fr+(if any=true then 1 else 0):=by cases any <;> simp [caW,zU]
theorem Qab{fr:Nat}{any:Bool}{i:Nat}(h:fr≤4)(hi:i<(caW fr any).length):(wd (caW fr any) i).size=1:=by
  have D:∀ fr:Fin 5,∀ b:Bool,∀ i:Fin 5,i.val<(caW fr.val b).length→(wd (caW fr.val b) i.val).size=1:=by decide +kernel
  have:=qs fr any
  exact D ⟨fr,by omega⟩ any ⟨i,by revert this;split <;> intro this <;> omega⟩ hi
structure CaOk (fr:Nat) (any:Bool):Prop where
  le4:fr≤4
  z0:any=false→fr=0
theorem CaOk.apart{fr:Nat}{any:Bool}(h:CaOk fr any):Jq (caW fr any)=true:=by
  cases any with
  |true=>exact QcV ⟨fr,by have:=h.le4;omega⟩
  |false=>have:=h.z0 rfl;subst this;exact Qbf
theorem CaOk.len{fr:Nat}{any:Bool}(h:CaOk fr any):(caW fr any).length≤5:=by
  rw [qs];split <;> omega
theorem CaOk.nl{fr:Nat}{any:Bool}(h:CaOk fr any){n:Nat}(hn:n<(caW fr any).length):(nt (caW fr any) n ByteArray.empty).toList=([10]:List UInt8)↔n=4-fr:=by
  have hl:=qs fr any
  have hf:=h.le4
  cases any with
  |true=>exact QfZ ⟨fr,by omega⟩ ⟨n,by simp only [if_true] at hl;omega⟩ hn
  |false=>
    have:=h.z0 rfl
    subst this
    simp only [Bool.false_eq_true,if_false] at hl
    refine ⟨fun e=>absurd e (Qep ⟨n,by omega⟩),fun e=>by omega⟩
theorem Qfn:∀ (d fr:Nat) (any:Bool) (i:Int) (s:TS) (k:Nat),CaOk fr any→4-fr<d→d≤5→s.ok→s.e=0→20100+20*d<k→(any=true→0<i)→(any=false→i=0)→0≤i→i+d≤10 →
    Qj.l0 k fr i s.t s.a s.e s.b s.tu s.ca s.ep s.ki s.go s.n s.hf s.tr s.se s.mx s.rt s.sd s.le=some (caF d fr any s).out
  |0,fr,any,i,s,k,_,h,_,_,_,_,_,_,_,_=>by omega
  |d+1,fr,any,i,s,k,hc,hd,hd5,hs,he,hk,hi1,hi0,hi,hi10=>by
    have hf:=hc.le4
    obtain ⟨k,rfl⟩:∃ m,k=m+1+(4-fr)+1:=⟨k-2-(4-fr),by omega⟩
    rw [Qj.l0,if_pos he,Qfm s fr i (4-fr) fr (k+1) [] (by omega) (by simp),List.nil_append,show (List.range' fr (4-fr)).map caB=caL fr from rfl,Qj.l1,if_neg (by omega)]
    have hl:=qs fr any
    have hcl:=zU fr
    have B:=XB (t:=s.t) (ss:=caW fr any) hs.a0 hs.a1 hc.apart
    have R:=Qaf s (caW fr any) hs (by have:=hc.len;omega) (fun i hi=>by rw [Qab hf hi];omega) (k:=k) (by omega)
    unfold QS TS.at_ TS.out at R
    rw [if_pos he] at R
    dsimp only at R
    have fin:(Qt.f k s.t s.a s.e s.b s.tu s.ca s.ep s.ki s.go s.n s.hf s.tr s.se s.mx s.rt s.sd s.le (caW fr any)).bind (fun bt137=>(if bt137.2.2.2.1=0 then (if 0≤bt137.1 then (if bt137.1<((caW fr any).length:Int) then (if (nt (caW fr any) bt137.1.toNat ByteArray.empty).toList=([10]:List UInt8) then (some (bt137.2.1,wrap64 (bt137.2.2.1-1),bt137.2.2.2.1,bt137.2.2.2.2.1,bt137.2.2.2.2.2.1,bt137.2.2.2.2.2.2.1,bt137.2.2.2.2.2.2.2.1,bt137.2.2.2.2.2.2.2.2.1,bt137.2.2.2.2.2.2.2.2.2.1,bt137.2.2.2.2.2.2.2.2.2.2.1,bt137.2.2.2.2.2.2.2.2.2.2.2.1,bt137.2.2.2.2.2.2.2.2.2.2.2.2.1,bt137.2.2.2.2.2.2.2.2.2.2.2.2.2.1,bt137.2.2.2.2.2.2.2.2.2.2.2.2.2.2.1,bt137.2.2.2.2.2.2.2.2.2.2.2.2.2.2.2.1,bt137.2.2.2.2.2.2.2.2.2.2.2.2.2.2.2.2.1,bt137.2.2.2.2.2.2.2.2.2.2.2.2.2.2.2.2.2)) else (if 0≤(wrap64 ((fr:Int)+bt137.1)) then (if (wrap64 ((fr:Int)+bt137.1))≤64 then ((some (wrap64 (1*2^(wrap64 ((fr:Int)+bt137.1)).toNat))).bind fun s156=>(Qj.l0 k (wrap64 ((fr:Int)+(wrap64 (bt137.1+1)))) (wrap64 (i+1)) bt137.2.1 bt137.2.2.1 bt137.2.2.2.1 bt137.2.2.2.2.1 bt137.2.2.2.2.2.1 (Go.bits .or .i64 bt137.2.2.2.2.2.2.1 s156) bt137.2.2.2.2.2.2.2.1 bt137.2.2.2.2.2.2.2.2.1 bt137.2.2.2.2.2.2.2.2.2.1 bt137.2.2.2.2.2.2.2.2.2.2.1 bt137.2.2.2.2.2.2.2.2.2.2.2.1 bt137.2.2.2.2.2.2.2.2.2.2.2.2.1 bt137.2.2.2.2.2.2.2.2.2.2.2.2.2.1 bt137.2.2.2.2.2.2.2.2.2.2.2.2.2.2.1 bt137.2.2.2.2.2.2.2.2.2.2.2.2.2.2.2.1 bt137.2.2.2.2.2.2.2.2.2.2.2.2.2.2.2.2.1 bt137.2.2.2.2.2.2.2.2.2.2.2.2.2.2.2.2.2)) else (none)) else (none))) else (none)) else (none)) else (some (bt137.2.1,bt137.2.2.1,bt137.2.2.2.1,bt137.2.2.2.2.1,bt137.2.2.2.2.2.1,bt137.2.2.2.2.2.2.1,bt137.2.2.2.2.2.2.2.1,bt137.2.2.2.2.2.2.2.2.1,bt137.2.2.2.2.2.2.2.2.2.1,bt137.2.2.2.2.2.2.2.2.2.2.1,bt137.2.2.2.2.2.2.2.2.2.2.2.1,bt137.2.2.2.2.2.2.2.2.2.2.2.2.1,bt137.2.2.2.2.2.2.2.2.2.2.2.2.2.1,bt137.2.2.2.2.2.2.2.2.2.2.2.2.2.2.1,bt137.2.2.2.2.2.2.2.2.2.2.2.2.2.2.2.1,bt137.2.2.2.2.2.2.2.2.2.2.2.2.2.2.2.2.1,bt137.2.2.2.2.2.2.2.2.2.2.2.2.2.2.2.2.2))))=some (caF (d+1) fr any s).out:=by
      rw [R]
      simp only [Option.bind_some]
      unfold caF
      have ht:=hs.t;have ha0:=hs.a0;have ha1:=hs.a1
      generalize QU s.t s.a (caW fr any)=z at B ⊢
      by_cases h0:z.2.2=0
      · obtain ⟨b1,b2,b3⟩:=B.2.2.2.1 h0
        obtain ⟨n,hn⟩:∃ n:Nat,z.2.1=n:=⟨z.2.1.toNat,by omega⟩
        rw [if_pos h0,if_pos h0,if_pos b2,if_pos b3,hn,Int.toNat_natCast]
        have N:=hc.nl (n:=n) (by omega)
        have hany:(if any=true then 1 else 0)≤1:=by split <;> omega
        by_cases h1:n=4-fr
        · rw [if_pos (N.2 h1),if_pos (by omega),w64 (x:=z.1-1) (by omega) (by omega),h0];rfl
        · rw [if_neg (fun h=>h1 (N.1 h)),if_neg (show ¬ (n:Int)=4-(fr:Int) by omega),w64 (x:=(fr:Int)+n) (by omega) (by omega),if_pos (by omega),if_pos (by omega),w64 (x:=(n:Int)+1) (by omega) (by omega),w64 (x:=(fr:Int)+((n:Int)+1)) (by omega) (by omega),w64 (x:=i+1) (by omega) (by omega)]
          rw [show (fr:Int)+((n:Int)+1)=((fr+n+1:Nat):Int) by omega,show ((fr:Int)+n).toNat=fr+n by omega]
          have hp:wrap64 (1*2^(fr+n))=2^(fr+n):=by
            have:fr+n=0∨fr+n=1∨fr+n=2∨fr+n=3:=by omega
            rcases this with q|q|q|q <;> rw [q] <;> decide +kernel
          rw [hp,h0]
          exact Qfn d (fr+n+1) true (i+1) { s with a:=z.1,e:=0,ca:=Go.bits .or .i64 s.ca (2^(fr+n)) } k ⟨by omega,fun h=>by cases h⟩ (by omega) (by omega) ⟨hs.t,by dsimp only;omega,by dsimp only;omega⟩ rfl (by omega) (fun _=>by omega) (fun h=>by cases h) (by omega) (by omega)
      · rw [if_neg h0,if_neg h0];rfl
    cases any with
    |true=>
      rw [if_pos (by have:=hi1 rfl;omega),if_pos (by omega)]
      exact fin
    |false=>
      rw [if_neg (by have:=hi0 rfl;omega)]
      exact fin
theorem QcW(s:TS)(hs:s.ok):Qj.f 30000 s.t s.a s.e s.b s.tu s.ca s.ep s.ki s.go s.n s.hf s.tr s.se s.mx s.rt s.sd s.le=some (Jo s).out:=by
  unfold Qj.f Jo
  by_cases h:s.e=0
  · rw [if_pos h]
    exact Qfn 5 0 false 0 s 30000 ⟨by omega,fun _=>rfl⟩ (by omega) (by omega) hs h (by omega) (fun h=>by cases h) (fun _=>rfl) (by omega) (by omega)
  · rw [if_neg h,show (30000:Nat)=29999+1 from rfl,Qj.l0,if_neg h];rfl
def spB:ByteArray:=⟨#[32]⟩
def Vi:List ByteArray:=[⟨#[32,119,104,105,116,101]⟩,⟨#[32,98,108,97,99,107]⟩]
def XG:List ByteArray:=[⟨#[102,111,114,115,121,116,104,32]⟩,⟨#[112,105,101,99,101,115,32]⟩]
def ZW:ByteArray:=⟨#[98,101,103,105,110,10]⟩
def XV:ByteArray:=⟨#[115,116,105,112,32]⟩
def ZU(s:TS):TS:={ (QS Vi s).2 with sd:=(QS Vi s).1 }
def maxR(s:TS):TS:={ (Kr 1 1000 (Qx spB s)).2 with mx:=(Kr 1 1000 (Qx spB s)).1 }
def Zr(s:TS):TS:={ (Kr 0 4 (Qx spB s)).2 with rt:=(Kr 0 4 (Qx spB s)).1 }
def sqR(s:TS):TS:=if s.e=0 then { s.at_ (sqZ s.t s.a.toNat) with ep:=(sqZ s.t s.a.toNat).2.1 } else s
def JQ(s:TS):TS:=if (QS XG (Qx ZW s)).1=0 then ZV rdZ (QS XG (Qx ZW s)).2 else ZV rlZ (QS XG (Qx ZW s)).2
def XM(s:TS):TS:=if s.e=0 then { s with ki:=(JS s.t s.a).1,go:=(JS s.t s.a).2.1,n:=(JS s.t s.a).2.2.1,hf:=(JS s.t s.a).2.2.2.1,a:=(JS s.t s.a).2.2.2.2.1,e:=(JS s.t s.a).2.2.2.2.2.2 } else s
def JP(s:TS):TS:=Qx nlB (XM (Qx XV s))
theorem qb:Jq Vi=true:=by decide +kernel
theorem qc:Jq XG=true:=by decide +kernel
theorem Qbg:∀ i,i<Vi.length→(wd Vi i).size≤1000:=by decide
theorem Qbh:∀ i,i<XG.length→(wd XG i).size≤1000:=by decide
theorem Vs{s:TS}{w:ByteArray}(hs:s.ok)(hw:0<w.size):(Qx w s).ok:=by
  unfold Qx
  split
  · have:=qo (t:=s.t) (u:=w) hs.a0 hs.a1 hw
    have:=hs.a0
    exact ⟨hs.t,by show 0≤(Jv s.t s.a w).1;omega,by show (Jv s.t s.a w).1≤(s.t.size:Int);omega⟩
  · exact hs
theorem qJ{s:TS}{ws:List ByteArray}(hs:s.ok)(hw:Jq ws=true):(QS ws s).2.ok:=by
  unfold QS
  split
  · have:=XB (t:=s.t) (ss:=ws) hs.a0 hs.a1 hw
    have:=hs.a0
    exact ⟨hs.t,by show 0≤(QU s.t s.a ws).1;omega,by show (QU s.t s.a ws).1≤(s.t.size:Int);omega⟩
  · exact hs
theorem QgN(s:TS):Xz.f s.t s.a s.e s.b s.tu s.ca s.ep s.ki s.go s.n s.hf s.tr s.se s.mx s.rt s.sd s.le=some { s with tr:=true }.out:=rfl
theorem QgO(s:TS):XA.f s.t s.a s.e s.b s.tu s.ca s.ep s.ki s.go s.n s.hf s.tr s.se s.mx s.rt s.sd s.le=some { s with se:=true }.out:=rfl
theorem Qga(s:TS)(hs:s.ok):ZO.f 30000 s.t s.a s.e s.b s.tu s.ca s.ep s.ki s.go s.n s.hf s.tr s.se s.mx s.rt s.sd s.le=some (ZU s).out:=by
  unfold ZO.f
  rw [show [(⟨#[32,119,104,105,116,101]⟩:ByteArray),(⟨#[32,98,108,97,99,107]⟩:ByteArray)]=Vi from rfl,Qaf s Vi hs (by decide) Qbg (by omega)]
  rfl
theorem QgP(s:TS)(hs:s.ok):ZP.f 30000 s.t s.a s.e s.b s.tu s.ca s.ep s.ki s.go s.n s.hf s.tr s.se s.mx s.rt s.sd s.le=some (maxR s).out:=by
  unfold ZP.f
  rw [show (⟨#[32]⟩:ByteArray)=spB from rfl,VM s spB hs (by decide)]
  rw [Option.bind_some]
  have h:=Qfl (Qx spB s) 1 1000 (Vs hs (by decide))
  unfold maxR
  generalize Qx spB s=s1 at h ⊢
  dsimp only [TS.out] at h ⊢
  rw [h]
  rfl
theorem Qeq(s:TS)(hs:s.ok):ZS.f 30000 s.t s.a s.e s.b s.tu s.ca s.ep s.ki s.go s.n s.hf s.tr s.se s.mx s.rt s.sd s.le=some (Zr s).out:=by
  unfold ZS.f
  rw [show (⟨#[32]⟩:ByteArray)=spB from rfl,VM s spB hs (by decide)]
  rw [Option.bind_some]
  have h:=Qfl (Qx spB s) 0 4 (Vs hs (by decide))
  unfold Zr
  generalize Qx spB s=s1 at h ⊢
  dsimp only [TS.out] at h ⊢
  rw [h]
  rfl
theorem vm(s:TS)(hs:s.ok):ZQ.f 30000 s.t s.a s.e s.b s.tu s.ca s.ep s.ki s.go s.n s.hf s.tr s.se s.mx s.rt s.sd s.le=some (Jo (Qx spB s)).out:=by
  unfold ZQ.f
  rw [show (⟨#[32]⟩:ByteArray)=spB from rfl,VM s spB hs (by decide)]
  rw [Option.bind_some]
  have h:=QcW (Qx spB s) (Vs hs (by decide))
  generalize Qx spB s=s1 at h ⊢
  dsimp only [TS.out] at h ⊢
  rw [h]
  rfl
theorem QcX{t:ByteArray}{a:Int}(ht:t.size≤1000)(h0:0≤a)(h1:a≤t.size):Je.f 30000 t a=some (sqZ t a.toNat):=by
  obtain ⟨n,rfl⟩:∃ n:Nat,a=n:=⟨a.toNat,by omega⟩
  unfold Je.f
  rw [(qh (t:=t) (a:=n) (by omega) (by omega)).1]
  simp only [Option.bind_some,if_true]
  rw [if_pos (by omega),if_pos (by omega),Qgb t n (by omega) (by omega) (by omega),Int.toNat_natCast]
theorem Qhd(s:TS)(hs:s.ok):ZR.f 30000 s.t s.a s.e s.b s.tu s.ca s.ep s.ki s.go s.n s.hf s.tr s.se s.mx s.rt s.sd s.le=some (sqR (Qx spB s)).out:=by
  unfold ZR.f
  rw [show (⟨#[32]⟩:ByteArray)=spB from rfl,VM s spB hs (by decide)]
  rw [Option.bind_some]
  have hk:=Vs hs (show 0<spB.size by decide)
  generalize Qx spB s=s1 at hk ⊢
  unfold sqR
  unfold TS.out
  dsimp only
  by_cases h:s1.e=0
  · rw [if_pos h,if_pos h,QcX hk.t hk.a0 hk.a1]
    rfl
  · rw [if_neg h,if_neg h]
theorem Qgc(s:TS)(hs:s.ok):Zb.f 30000 s.t s.a s.e s.b s.tu s.ca s.ep s.ki s.go s.n s.hf s.tr s.se s.mx s.rt s.sd s.le=some (JQ s).out:=by
  unfold Zb.f
  rw [show (⟨#[98,101,103,105,110,10]⟩:ByteArray)=ZW from rfl,VM s ZW hs (by decide)]
  rw [Option.bind_some]
  unfold JQ
  have hk:=Vs hs (show 0<ZW.size by decide)
  generalize Qx ZW s=s1 at hk ⊢
  have h:=Qaf s1 XG hk (by decide) Qbh (k:=30000) (by omega)
  have hk2:=qJ hk qc
  rw [show [(⟨#[102,111,114,115,121,116,104,32]⟩:ByteArray),(⟨#[112,105,101,99,101,115,32]⟩:ByteArray)]=XG from rfl]
  generalize QS XG s1=x at h hk2 ⊢
  obtain ⟨n,s2⟩:=x
  dsimp only at hk2
  have f:=Qen s2 hk2
  have r:=Qeo s2 hk2
  dsimp only [TS.out] at h f r ⊢
  rw [h]
  rw [Option.bind_some]
  dsimp only
  by_cases hn:n=0
  · rw [if_pos hn,if_pos hn,f]
    generalize ZV rdZ s2=s3
    rfl
  · rw [if_neg hn,if_neg hn,r]
    generalize ZV rlZ s2=s3
    rfl
theorem Qer{t:ByteArray}{a:Int}(h0:0≤a)(h1:a≤t.size):a≤(JS t a).2.2.2.2.1∧(JS t a).2.2.2.2.1≤t.size∧((JS t a).2.2.2.2.2.2=0∨(JS t a).2.2.2.2.2.2=1∨(JS t a).2.2.2.2.2.2=2) ∧
    ((JS t a).2.2.2.2.2.2=1→(JS t a).2.2.2.2.1=t.size)∧((JS t a).2.2.2.2.2.2=2→(JS t a).2.2.2.2.1<t.size):=by
  have A:=XB (t:=t) h0 h1 Kq
  unfold JS
  generalize QU t a Zq=x at A ⊢
  have B:=fun (l:Int) (hl:0≤l∧l≤64∧(64:Int)≤1000000)=>qp (t:=t) (a:=x.1) (least:=l) (most:=64) (by omega) (by omega) hl
  unfold jy
  by_cases c1:x.2.2=0
  · rw [if_pos c1]
    dsimp only
    by_cases c2:(nt VH x.2.1.toNat (0,0,0,false)).1=5
    · rw [if_pos c2]
      have b:=B 0 (by omega)
      generalize JM t x.1 0 64=m at b ⊢
      have C:=qo (t:=t) (a:=m.1) (u:=Xi) (by omega) (by omega) (by decide)
      generalize Jv t m.1 Xi=q at C ⊢
      (repeat' split) <;> dsimp only <;> omega
    · rw [if_neg c2]
      have b:=B 1 (by omega)
      generalize JM t x.1 1 64=m at b ⊢
      (repeat' split) <;> dsimp only <;> omega
  · rw [if_neg c1]
    dsimp only
    omega
theorem QcY{s:TS}(hs:s.ok):(XM s).ok:=by
  unfold XM
  split
  · have:=Qer (t:=s.t) hs.a0 hs.a1
    have:=hs.a0
    exact ⟨hs.t,by dsimp only;omega,by dsimp only;omega⟩
  · exact hs
theorem Qes(s:TS)(hs:s.ok):JI.f 30000 s.t s.a s.e s.b s.tu s.ca s.ep s.ki s.go s.n s.hf s.tr s.se s.mx s.rt s.sd s.le=some (JP s).out:=by
  unfold JI.f
  rw [show (⟨#[115,116,105,112,32]⟩:ByteArray)=XV from rfl,VM s XV hs (by decide)]
  rw [Option.bind_some]
  unfold JP
  have hk:=Vs hs (show 0<XV.size by decide)
  generalize Qx XV s=s1 at hk ⊢
  have hk2:=QcY hk
  have h:=VM (XM s1) nlB hk2 (by decide)
  unfold TS.out
  dsimp only
  by_cases c:s1.e=0
  · rw [if_pos c,Qec hk.t]
    unfold XM at h ⊢
    rw [if_pos c] at h ⊢
    dsimp only [TS.out] at h ⊢
    simp only [Option.bind_some,Ql.f]
    rw [show (⟨#[10]⟩:ByteArray)=nlB from rfl,h]
    rfl
  · rw [if_neg c]
    unfold XM at h ⊢
    rw [if_neg c] at h ⊢
    dsimp only [TS.out] at h ⊢
    rw [show (⟨#[10]⟩:ByteArray)=nlB from rfl,h]
    rfl
end Go.Proofs.YtaipghemddjecaaGreatDoor
