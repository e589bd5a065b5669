import Derived.Test.YtaipghemddjecaaGreatDoorTxy
namespace Go.Proofs.YtaipghemddjecaaGreatDoor
set_option maxHeartbeats 40000000
set_option maxRecDepth 100000
open Go.RowKit
set_option linter.unusedVariables false
set_option linter.unusedSimpArgs false
section
variable (P t:ByteArray)
theorem vB(i:Nat):bt (P++t) (P.size+i)=bt t i:=by
  unfold bt
  rw [show (P++t).data.toList=P.data.toList++t.data.toList by simp]
  rw [List.getD_eq_getElem?_getD,List.getD_eq_getElem?_getD,List.getElem?_append_right (by simp)]
  congr 3
  simp
theorem xd{a:Int}(ha:0≤a):bt (P++t) ((P.size:Int)+a).toNat=bt t a.toNat:=by
  rw [show ((P.size:Int)+a).toNat=P.size+a.toNat by omega];exact vB P t _
def sh(z:Int×Int×Int):Int×Int×Int:=((P.size:Int)+z.1,z.2.1,z.2.2)
theorem kp{a:Int}(ha:0≤a)(u:ByteArray):∀ (f:Nat) (n:Int),0≤n→Xj (P++t) ((P.size:Int)+a) u f n=Xj t a u f n
  |0,n,_=>rfl
  |f+1,n,h=>by
    have hs:=Qn P t
    unfold Xj
    have hb:bt (P++t) ((P.size:Int)+a+n).toNat=bt t (a+n).toNat:=by
      rw [Int.add_assoc];exact xd P t (by omega)
    rw [hb]
    by_cases c:a+n<t.size∧bt t (a+n).toNat=bt u n.toNat
    · rw [if_pos c,if_pos ⟨by omega,c.2⟩];exact kp ha u f (n+1) (by omega)
    · rw [if_neg c,if_neg (fun h=>c ⟨by omega,h.2⟩)]
theorem qu{a:Int}(ha:0≤a)(u:ByteArray):Jp (P++t) ((P.size:Int)+a) u=Jp t a u:=kp P t ha u u.size 0 (Int.le_refl _)
theorem zv{a:Int}(ha:0≤a)(ss:List ByteArray):∀ k,JN (P++t) ((P.size:Int)+a) ss k=JN t a ss k
  |0=>rfl
  |k+1=>by unfold JN;rw [zv ha ss k,qu P t ha]
theorem kr{a:Int}(ha:0≤a)(ss:List ByteArray):∀ f k,Vb (P++t) ((P.size:Int)+a) ss f k=sh P (Vb t a ss f k)
  |0,k=>by
    have hs:=Qn P t
    unfold Vb KR sh
    rw [zv P t ha]
    by_cases c:0<k∧a+JN t a ss k=t.size
    · rw [if_pos c,if_pos ⟨c.1,by omega⟩];simp only [Int.add_assoc]
    · rw [if_neg c,if_neg (fun h=>c ⟨h.1,by omega⟩)];simp only [Int.add_assoc]
  |f+1,k=>by
    unfold Vb
    rw [qu P t ha,kr ha ss f (k+1)]
    split
    · unfold sh;simp only [Int.add_assoc]
    · rfl
theorem Qez{a:Int}(ha:0≤a)(h1:a≤t.size){ss:List ByteArray}(hp:Jq ss=true):QU (P++t) ((P.size:Int)+a) ss=sh P (QU t a ss):=by
  have hs:=Qn P t
  unfold QU
  rw [if_pos ⟨⟨by omega,by omega⟩,hp⟩,if_pos ⟨⟨ha,h1⟩,hp⟩,kr P t ha]
theorem ks{a:Int}(ha:0≤a)(h1:a≤t.size)(u:ByteArray):Jv (P++t) ((P.size:Int)+a) u=sh P (Jv t a u):=by
  have hs:=Qn P t
  unfold Jv
  rw [if_pos ⟨by omega,by omega⟩,if_pos ⟨ha,h1⟩,qu P t ha]
  unfold sh wdE
  simp only [Int.add_assoc]
  congr 2
  by_cases c:Jp t a u=u.size
  · rw [if_pos c,if_pos c]
  · rw [if_neg c,if_neg c]
    by_cases d:a+Jp t a u=t.size
    · rw [if_pos d,if_pos (by omega)]
    · rw [if_neg d,if_neg (by omega)]
theorem jN(a least i n:Int):Zf (P++t) ((P.size:Int)+a) least ((P.size:Int)+i) n=sh P (Zf t a least i n):=by
  have hs:=Qn P t
  unfold Zf sh
  by_cases c:i>a∧n≥least
  · rw [if_pos c,if_pos ⟨by omega,c.2⟩]
  · rw [if_neg c,if_neg (fun h=>c ⟨by omega,h.2⟩)]
    by_cases d:i=t.size
    · rw [if_pos d,if_pos (by omega)]
    · rw [if_neg d,if_neg (by omega)]
theorem kt(a least most:Int):∀ (d:Nat) (i n:Int),0≤i→XK (P++t) ((P.size:Int)+a) least most d ((P.size:Int)+i) n=sh P (XK t a least most d i n)
  |0,i,n,_=>jN P t a least i n
  |d+1,i,n,h=>by
    unfold XK
    rw [xd P t h]
    by_cases c:48≤bt t i.toNat∧bt t i.toNat≤57
    · rw [if_pos c,if_pos c]
      by_cases e:(i>a∧n=0)∨(i=a∧10*n+(bt t i.toNat-48)=0∧least>0)∨10*n+(bt t i.toNat-48)>most
      · rw [if_pos e,if_pos (by omega)];rfl
      · rw [if_neg e,if_neg (by omega),Int.add_assoc];exact kt a least most d (i+1) _ (by omega)
    · rw [if_neg c,if_neg c];exact jN P t a least i n
theorem xe{a least most:Int}(ha:0≤a)(h1:a≤t.size)(hl:0≤least∧least≤most∧most≤1000000):JM (P++t) ((P.size:Int)+a) least most=sh P (JM t a least most):=by
  have hs:=Qn P t
  unfold JM
  rw [if_pos ⟨⟨by omega,by omega⟩,hl⟩,if_pos ⟨⟨ha,h1⟩,hl⟩]
  rw [show (P++t).size-((P.size:Int)+a).toNat=t.size-a.toNat by omega]
  exact kt P t a least most _ a 0 ha
theorem Qgi(n:Nat):sqZ (P++t) (P.size+n)=sh P (sqZ t n):=by
  have hs:=Qn P t
  unfold sqZ sh
  rw [vB,Nat.add_assoc,vB]
  by_cases c:n=t.size
  · rw [if_pos c,if_pos (by omega)];simp
  · rw [if_neg c,if_neg (by omega)]
    split
    · by_cases d:n+1=t.size
      · rw [if_pos d,if_pos (by omega)];simp only [Prod.mk.injEq,and_self,and_true];omega
      · rw [if_neg d,if_neg (by omega)]
        split
        · simp only [Prod.mk.injEq,and_self,and_true];omega
        · simp only [Prod.mk.injEq,and_self,and_true];omega
    · simp
def shS(z:vU):vU:=(z.1,z.2.1,z.2.2.1,z.2.2.2.1,(P.size:Int)+z.2.2.2.2.1,z.2.2.2.2.2.1,z.2.2.2.2.2.2)
theorem Qbr(x:Int×Int×Int)(h0:0≤x.1)(h1:x.1≤t.size):jy (P++t) (sh P x)=shS P (jy t x):=by
  have hs:=Qn P t
  obtain ⟨a,i,e⟩:=x
  unfold jy sh
  dsimp only at h0 h1 ⊢
  by_cases c:e=0
  · rw [if_pos c,if_pos c]
    by_cases c5:(nt VH i.toNat (0,0,0,false)).1=5
    · rw [if_pos c5,if_pos c5]
      rw [xe P t h0 h1 (by omega)]
      have b:=qp (least:=0) (most:=64) h0 h1 (by omega)
      generalize JM t a 0 64=m at b
      unfold sh
      dsimp only
      by_cases cm:m.2.2=0
      · rw [if_pos cm,if_pos cm]
        by_cases c0:m.2.1=0
        · rw [if_pos c0,if_pos c0,ks P t (by omega) (by omega)]
          unfold sh
          dsimp only
          split <;> rfl
        · rw [if_neg c0,if_neg c0,xd P t (by omega)]
          by_cases cl:m.1<t.size∧bt t m.1.toNat=46
          · rw [if_pos cl,if_pos ⟨by omega,cl.2⟩,ks P t (by omega) (by omega)]
            unfold sh
            dsimp only
            split <;> rfl
          · rw [if_neg cl,if_neg (fun h=>cl ⟨by omega,h.2⟩)];rfl
      · rw [if_neg cm,if_neg cm];rfl
    · rw [if_neg c5,if_neg c5]
      rw [xe P t h0 h1 (by omega)]
      unfold sh
      dsimp only
      split <;> rfl
  · rw [if_neg c,if_neg c];rfl
theorem Qdq{a:Int}(ha:0≤a)(h1:a≤t.size):JS (P++t) ((P.size:Int)+a)=shS P (JS t a):=by
  unfold JS
  have b:=XB ha h1 Kq
  rw [Qez P t ha h1 Kq]
  exact Qbr P t _ (by omega) b.2.1
end
end Go.Proofs.YtaipghemddjecaaGreatDoor
