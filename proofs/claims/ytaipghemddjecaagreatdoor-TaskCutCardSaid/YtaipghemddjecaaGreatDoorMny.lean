import Derived.Test.YtaipghemddjecaaGreatDoorProg
import Derived.Test.YtaipghemddjecaaGreatDoorMpy
import Derived.Test.YtaipghemddjecaaGreatDoorPly
import Derived.WalkKit
import Derived.WalkSpells
import Derived.WalkLawsBesides
import Derived.Deep.QuietTactic
import Derived.BigQuiet
import Derived.Laws.BytesString
namespace Go.Proofs.YtaipghemddjecaaGreatDoor
set_option maxHeartbeats 40000000
set_option maxRecDepth 100000
open Go.RowKit
theorem xB(m:Int):m < -6∨6<m∨m = -6∨m = -5∨m = -4∨m = -3∨m = -2∨m = -1∨m=0∨m=1∨m=2∨m=3∨m=4∨m=5∨m=6:=by omega
theorem Xq(m:Int)(w:World):Calls Tryz.prog 56 #[.int .i64 m] w fun e w'=>e=.returned (.bool (jh m))∧w=w':=by
  rcases xB m with h|h|rfl|rfl|rfl|rfl|rfl|rfl|rfl|rfl|rfl|rfl|rfl|rfl|rfl
  · have H:=hid (show jh m=false from decide_eq_false (by omega))
    have d0:=vL (show m≠0 by omega)
    go_enter Tryz.func56,Tryz.ntmps56
    go_wp2
    go_ret
    exact ⟨zH H.out.symm,rfl⟩
  · have H:=hid (show jh m=false from decide_eq_false (by omega))
    have d0:=vL (show m≠0 by omega)
    have d:=decide_eq_false (show ¬ m≤6 by omega)
    go_enter Tryz.func56,Tryz.ntmps56
    go_wp2
    go_ret
    exact ⟨zH H.out.symm,rfl⟩
  all_goals
    go_enter Tryz.func56,Tryz.ntmps56
    go_wp2
    go_ret
    exact ⟨zH (by decide),rfl⟩
theorem QfI(k s:Int)(w:World):Calls Tryz.prog 122 #[.int .i64 k,.int .i64 s] w fun e w'=>e=.returned (.int .i64 (Vu k s))∧w=w':=by
  by_cases hk:k<1∨6<k
  · have H:=hid (show Vu k s=0 by unfold Vu;rw [if_pos hk])
    rcases hk with h|h
    · go_enter Tryz.func122,Tryz.ntmps122
      go_wp2
      go_ret
      exact ⟨VX H.out.symm,rfl⟩
    · have d:=decide_eq_true h
      go_enter Tryz.func122,Tryz.ntmps122
      go_wp2
      go_ret
      exact ⟨VX H.out.symm,rfl⟩
  · have H:Hid (Vu k s=if s=0 then k else if s=1 then -k else 0):=hid (by unfold Vu;rw [if_neg hk])
    have k1:1≤k:=by omega
    have k2:k≤6:=by omega
    have d:=decide_eq_false (show ¬ 6<k by omega)
    clear hk
    by_cases h0:s=0
    · subst h0
      go_enter Tryz.func122,Tryz.ntmps122
      go_wp2
      go_ret
      exact ⟨VX (by rw [H.out];rfl),rfl⟩
    · by_cases h1:s=1
      · subst h1
        go_enter Tryz.func122,Tryz.ntmps122
        go_wp2
        go_ret
        exact ⟨VX (by rw [H.out];rfl),rfl⟩
      · have b0:=xC h0
        have b1:=xC h1
        have H2:Hid (Vu k s=0):=hid (by rw [H.out,if_neg h0,if_neg h1])
        clear h0 h1
        go_enter Tryz.func122,Tryz.ntmps122
        go_wp2
        go_ret
        exact ⟨VX H2.out.symm,rfl⟩
theorem kK{a b:ByteArray}(h:a=b):Ending.returned (.string a)=.returned (.string b):=by rw [h]
theorem vM(n j:Nat):n*j+n=n*(j+1):=rfl
theorem Kt{s:ByteArray}{n:Nat}{l:List Nat}(T:RText s n l)(k:Nat)(hk:k<l.length)(w:World):
    Calls Tryz.prog 78 #[.string s,.int .i64 k] w fun e w'=>e=.returned (.string (Utf8.encode (l.getD k 0:Nat)))∧Below w.heap.size w w':=by
  have HT:=hid T
  have hk12:k<12:=by have:=T.few;omega
  clear T
  go_enter Tryz.func78,Tryz.ntmps78
  go_wp2
  go_loopw [5] (fun n' wr=>∃ (j:Nat),n'=.int .i64 j∧j≤k∧Hid (Itr wr (w.heap.size) s (n*j))∧Hid (Below w.heap.size w wr)) (fun n _=>12-(intOf n).toNat)
  case atStart=>exact ⟨0,rfl,by omega,hid (by rw [Nat.mul_zero];exact Itr.new w s),hid (Vp (Below.refl _ _) (Nat.le_refl _) _ _)⟩
  case round=>
    obtain ⟨j,rfl,hj,HI,HL⟩:=hrel
    have hlt:n*j<s.size:=by rw [HT.out.size];exact Nat.mul_lt_mul_of_pos_left (by omega) HT.out.pos
    have hn:=fun ty=>Lib.run_next_any_at (P:=Tryz.prog) wr (w.heap.size) s (n*j) ty HI.out hlt
    have hd:=HT.out.dec j (by omega)
    rw [hd,vM] at hn
    dsimp only at hn
    have HI2:=hid (HI.out.at_ (n*(j+1)))
    have HL2:=hid (Lib.below_iterAt HL.out (Nat.le_refl _) s (n*(j+1)))
    clear hd hlt HL HI
    obtain ⟨c,hc⟩:∃ c:Nat,c=l.getD j 0:=⟨_,rfl⟩
    rw [← hc] at hn
    have HC:=hid hc
    clear hc
    by_cases hjk:(j:Int)=k
    · have b:=QbV hjk
      have HJ:Hid (j=k):=hid (by omega)
      clear hjk
      go_wp2
      go_ret
      exact ⟨kK (by rw [HC.out,HJ.out]),HL2.out⟩
    · have b:=xC hjk
      have hlt:j<k:=by omega
      clear hjk
      go_wp2
      go_roundw
      case rel=>exact ⟨j+1,by go_num,by omega,HI2,HL2⟩
      case measure=>simp [intOf];omega
theorem vN{s:ByteArray}{n:Nat}{l:List Nat}(T:RText s n l)(c:Int)(w:World):
    Calls Tryz.prog 121 #[.string s,.int .i32 c] w fun e w'=>e=.returned (.int .i64 (Jg c l 0))∧Below w.heap.size w w':=by
  have HT:=hid T
  have hk12:l.length≤12:=T.few
  clear T
  go_enter Tryz.func121,Tryz.ntmps121
  go_wp2
  go_loopw [5] (fun n' wr=>∃ (j:Nat),n'=.int .i64 j∧j≤l.length∧Hid (Jg c l 0=Jg c (l.drop j) j)∧Hid (Itr wr (w.heap.size) s (n*j))∧Hid (Below w.heap.size w wr)) (fun n _=>12-(intOf n).toNat)
  case atStart=>exact ⟨0,rfl,by omega,hid rfl,hid (by rw [Nat.mul_zero];exact Itr.new w s),hid (Vp (Below.refl _ _) (Nat.le_refl _) _ _)⟩
  case round=>
    obtain ⟨j,rfl,hj,HF,HI,HL⟩:=hrel
    by_cases hjl:j<l.length
    · have hlt:n*j<s.size:=by rw [HT.out.size];exact Nat.mul_lt_mul_of_pos_left (by omega) HT.out.pos
      have hn:=fun ty=>Lib.run_next_any_at (P:=Tryz.prog) wr (w.heap.size) s (n*j) ty HI.out hlt
      have hd:=HT.out.dec j (by omega)
      rw [hd,vM] at hn
      dsimp only at hn
      have HI2:=hid (HI.out.at_ (n*(j+1)))
      have HL2:=hid (Lib.below_iterAt HL.out (Nat.le_refl _) s (n*(j+1)))
      clear hd hlt HL HI
      obtain ⟨x,hx⟩:∃ x:Nat,x=l.getD j 0:=⟨_,rfl⟩
      rw [← hx] at hn
      have j0:(0:Int)≤(j:Int):=by omega
      by_cases hc:(x:Int)=c
      · have b:=QbV hc
        have HM:=hid (HF.out.trans (jQ hjl (by rw [← hx];exact hc)))
        clear hc hx
        have j12:j<12:=by omega
        go_wp2_with (go_at_call 122;refine (QfI _ _ _).mono ?_;rintro e w' ⟨rfl,rfl⟩)
        go_ret
        exact ⟨VX HM.out.symm,HL2.out⟩
      · have b:=xC hc
        have HM:=hid (HF.out.trans (jn hjl (by rw [← hx];exact hc)))
        clear hc hx
        go_wp2
        go_roundw
        case rel=>exact ⟨j+1,by go_num,by omega,HM,HI2,HL2⟩
        case measure=>simp [intOf];omega
    · have hlt:¬ n*j<s.size:=by rw [HT.out.size,show j=l.length by omega];omega
      have hn:=fun ty=>Lib.run_next_end_at (P:=Tryz.prog) wr (w.heap.size) s (n*j) ty HI.out hlt
      have HM:=hid (HF.out.trans (jR (by omega)))
      clear hlt
      go_wp2
      go_ret
      exact ⟨VX HM.out.symm,HL.out⟩
theorem QbW(s:ByteArray)(pos:Nat)(h:pos<s.size):1≤(Utf8.decode s pos).2:=by
  by_cases ha:(s[pos]'h).toNat<128
  · simp only [Utf8.decode,get_at s pos h,ha,if_true];omega
  · exact (decode_high s pos h (by omega)).2
theorem QbX{c:Int}(h:Jg c Kp 0=0):XT c=Jg c kL 0:=by unfold XT;rw [if_pos h]
theorem QaE{c:Int}(h:Jg c Kp 0≠0):XT c=Jg c Kp 0:=by unfold XT;rw [if_neg h]
theorem kM(s:ByteArray)(pos:Nat)(h:pos<s.size):pos+(Utf8.decode s pos).2≤s.size:=by
  simp only [Utf8.decode]
  repeat' split
  all_goals simp_all
  all_goals omega
theorem Qay(t:ByteArray)(ht:t.size≤maxLen)(w:World):
    Calls Tryz.prog 105 #[.string t] w fun e w'=>e=.returned (.tuple #[.int .i64 (ofZ t),.bool (ofZ t != 0)])∧Below w.heap.size w w':=by
  unfold maxLen at ht
  have LL:=hid (vN JG)
  have LS:=hid (vN kN)
  go_enter Tryz.func105,Tryz.ntmps105
  go_wp2
  go_loopw [4] (fun m wr=>∃ (p:Nat) (x:Int),p≤t.size∧m=.int .i64 x∧((p=0∧x=0)∨(0<p∧0<t.size∧Hid (p=(Utf8.decode t 0).2)∧x=XT (Utf8.decode t 0).1))∧Hid (Itr wr (w.heap.size) t p)∧Hid (Below w.heap.size w wr)) (fun _ wr=>t.size-wr.iterPos w.heap.size)
  case atStart=>exact ⟨0,0,by omega,rfl,.inl ⟨rfl,rfl⟩,hid (Itr.new w t),hid (Vp (Below.refl _ _) (Nat.le_refl _) _ _)⟩
  case round=>
    obtain ⟨p,x,hp,rfl,hm,HI,HL⟩:=hrel
    have hip:wr.iterPos w.heap.size=p:=by have:=HI.out;unfold Itr at this;simp [World.iterPos,this]
    have Hip:=hid hip
    clear hip
    by_cases hlt:p<t.size
    · have hn:=fun ty=>Lib.run_next_any_at (P:=Tryz.prog) wr (w.heap.size) t p ty HI.out hlt
      have hw:=QbW t p hlt
      have hw2:=kM t p hlt
      obtain ⟨c,hc⟩:∃ c:Nat,c=(Utf8.decode t p).1:=⟨_,rfl⟩
      obtain ⟨q,hq⟩:∃ q:Nat,q=p+(Utf8.decode t p).2:=⟨_,rfl⟩
      rw [← hc,← hq] at hn
      rw [← hq] at hw2
      have hpq:p<q:=by omega
      have HI2:=hid (HI.out.at_ q)
      have HL2:=hid (Lib.below_iterAt HL.out (Nat.le_refl _) t q)
      have hsz:(wr.iterAt w.heap.size t q).heap.size=wr.heap.size:=Lib.iterAt_size _ _ _ _
      have hsz2:w.heap.size<(wr.iterAt w.heap.size t q).heap.size:=by rw [hsz];exact HI.out.lt
      clear HI HL hsz
      rcases hm with ⟨rfl,rfl⟩|⟨hp0,hs0,hpp,rfl⟩
      · have HC:=hid hc
        have HQ:=hid (show q=(Utf8.decode t 0).2 by omega)
        clear hc hq hw
        by_cases ha:Jg (c:Int) Kp 0=0
        · have b:=QbV ha
          have HM:=hid (QbX ha)
          have HA:=hid ha
          clear ha
          go_wp2_with fail
          refine (LL.out _ _).mono ?_
          rintro e w2 ⟨rfl,hb2⟩
          go_wp2_with fail
          refine (LS.out _ _).mono ?_
          rintro e w3 ⟨rfl,hb3⟩
          have hb:=hb2.trans (hb3.mono hb2.size)
          go_wp2_with fail
          go_roundw
          case rel=>
            refine ⟨q,_,hw2,rfl,.inr ⟨by omega,by omega,HQ,?_⟩,hid (HI2.out.below hb hsz2),hid (HL2.out.trans (hb.mono HL2.out.size))⟩
            rw [← HC.out,HM.out]
          case measure=>
            have e1:w3.iterPos w.heap.size=q:=by have:=HI2.out.below hb hsz2;unfold Itr at this;simp [World.iterPos,this]
            rw [e1,Hip.out];omega
        · have b:=xC ha
          have HM:=hid (QaE ha)
          clear ha
          go_wp2_with fail
          refine (LL.out _ _).mono ?_
          rintro e w2 ⟨rfl,hb⟩
          go_wp2_with fail
          go_roundw
          case rel=>
            refine ⟨q,_,hw2,rfl,.inr ⟨by omega,by omega,HQ,?_⟩,hid (HI2.out.below hb hsz2),hid (HL2.out.trans (hb.mono HL2.out.size))⟩
            rw [← HC.out,HM.out]
          case measure=>
            have e1:w2.iterPos w.heap.size=q:=by have:=HI2.out.below hb hsz2;unfold Itr at this;simp [World.iterPos,this]
            rw [e1,Hip.out];omega
      · have HO:=hid (show ofZ t=0 by unfold ofZ;rw [if_neg (by omega),if_pos (by rw [← hpp.out];omega)])
        clear hc hq hw
        go_wp2_with fail
        go_ret2
        exact ⟨QbY HO.out.symm (by rw [HO.out];rfl),HL2.out⟩
    · have hn:=fun ty=>Lib.run_next_end_at (P:=Tryz.prog) wr (w.heap.size) t p ty HI.out hlt
      rcases hm with ⟨rfl,rfl⟩|⟨hp0,hs0,hpp,rfl⟩
      · have HO:=hid (show ofZ t=0 by unfold ofZ;rw [if_pos (by omega)])
        clear hlt
        go_wp2_with fail
        go_ret2
        exact ⟨QbY HO.out.symm (by rw [HO.out];rfl),HL.out⟩
      · have HO:=hid (show ofZ t=XT (Utf8.decode t 0).1 by unfold ofZ;rw [if_neg (by omega),if_neg (by rw [← hpp.out];omega)])
        clear hlt
        go_wp2_with fail
        go_ret2
        exact ⟨QbY HO.out.symm (by rw [HO.out]),HL.out⟩
theorem xq(m:Int)(w:World):Calls Tryz.prog 58 #[.int .i64 m] w fun e w'=>e=.returned (.string (QX m))∧Below w.heap.size w w':=by
  rcases xB m with h|h|rfl|rfl|rfl|rfl|rfl|rfl|rfl|rfl|rfl|rfl|rfl|rfl|rfl
  · have H:=hid (qQ (.inl h))
    have d0:=vL (show m≠0 by omega)
    go_enter Tryz.func58,Tryz.ntmps58
    go_wp2
    go_ret
    exact ⟨kK H.out.symm,Below.refl _ _⟩
  · have H:=hid (qQ (.inr h))
    have d:=decide_eq_false (show ¬ m≤6 by omega)
    have d0:=vL (show m≠0 by omega)
    go_enter Tryz.func58,Tryz.ntmps58
    go_wp2
    go_ret
    exact ⟨kK H.out.symm,Below.refl _ _⟩
  · have HP:Hid (∀ w,Calls Tryz.prog 78 #[.string ⟨#[80,78,66,82,81,75,112,110,98,114,113,107]⟩,.int .i64 11] w fun e w'=>e=.returned (.string (QX (-6)))∧Below w.heap.size w w'):=hid (fun w=>Kt JG 11 (by decide) w)
    go_enter Tryz.func58,Tryz.ntmps58
    go_wp2_with (first
      |(go_at_call 78;refine (HP.out _).mono ?_;rintro e w1 ⟨rfl,hb1⟩)
      |(go_at_call 56;refine (Xq _ _).mono ?_;rintro e w' ⟨rfl,rfl⟩)
      |go_in)
    go_ret
    exact ⟨rfl,hb1⟩
  · have HP:Hid (∀ w,Calls Tryz.prog 78 #[.string ⟨#[80,78,66,82,81,75,112,110,98,114,113,107]⟩,.int .i64 10] w fun e w'=>e=.returned (.string (QX (-5)))∧Below w.heap.size w w'):=hid (fun w=>Kt JG 10 (by decide) w)
    go_enter Tryz.func58,Tryz.ntmps58
    go_wp2_with (first
      |(go_at_call 78;refine (HP.out _).mono ?_;rintro e w1 ⟨rfl,hb1⟩)
      |(go_at_call 56;refine (Xq _ _).mono ?_;rintro e w' ⟨rfl,rfl⟩)
      |go_in)
    go_ret
    exact ⟨rfl,hb1⟩
  · have HP:Hid (∀ w,Calls Tryz.prog 78 #[.string ⟨#[80,78,66,82,81,75,112,110,98,114,113,107]⟩,.int .i64 9] w fun e w'=>e=.returned (.string (QX (-4)))∧Below w.heap.size w w'):=hid (fun w=>Kt JG 9 (by decide) w)
    go_enter Tryz.func58,Tryz.ntmps58
    go_wp2_with (first
      |(go_at_call 78;refine (HP.out _).mono ?_;rintro e w1 ⟨rfl,hb1⟩)
      |(go_at_call 56;refine (Xq _ _).mono ?_;rintro e w' ⟨rfl,rfl⟩)
      |go_in)
    go_ret
    exact ⟨rfl,hb1⟩
  · have HP:Hid (∀ w,Calls Tryz.prog 78 #[.string ⟨#[80,78,66,82,81,75,112,110,98,114,113,107]⟩,.int .i64 8] w fun e w'=>e=.returned (.string (QX (-3)))∧Below w.heap.size w w'):=hid (fun w=>Kt JG 8 (by decide) w)
    go_enter Tryz.func58,Tryz.ntmps58
    go_wp2_with (first
      |(go_at_call 78;refine (HP.out _).mono ?_;rintro e w1 ⟨rfl,hb1⟩)
      |(go_at_call 56;refine (Xq _ _).mono ?_;rintro e w' ⟨rfl,rfl⟩)
      |go_in)
    go_ret
    exact ⟨rfl,hb1⟩
  · have HP:Hid (∀ w,Calls Tryz.prog 78 #[.string ⟨#[80,78,66,82,81,75,112,110,98,114,113,107]⟩,.int .i64 7] w fun e w'=>e=.returned (.string (QX (-2)))∧Below w.heap.size w w'):=hid (fun w=>Kt JG 7 (by decide) w)
    go_enter Tryz.func58,Tryz.ntmps58
    go_wp2_with (first
      |(go_at_call 78;refine (HP.out _).mono ?_;rintro e w1 ⟨rfl,hb1⟩)
      |(go_at_call 56;refine (Xq _ _).mono ?_;rintro e w' ⟨rfl,rfl⟩)
      |go_in)
    go_ret
    exact ⟨rfl,hb1⟩
  · have HP:Hid (∀ w,Calls Tryz.prog 78 #[.string ⟨#[80,78,66,82,81,75,112,110,98,114,113,107]⟩,.int .i64 6] w fun e w'=>e=.returned (.string (QX (-1)))∧Below w.heap.size w w'):=hid (fun w=>Kt JG 6 (by decide) w)
    go_enter Tryz.func58,Tryz.ntmps58
    go_wp2_with (first
      |(go_at_call 78;refine (HP.out _).mono ?_;rintro e w1 ⟨rfl,hb1⟩)
      |(go_at_call 56;refine (Xq _ _).mono ?_;rintro e w' ⟨rfl,rfl⟩)
      |go_in)
    go_ret
    exact ⟨rfl,hb1⟩
  · go_enter Tryz.func58,Tryz.ntmps58
    go_wp2
    go_ret
    exact ⟨rfl,Below.refl _ _⟩
  · have HP:Hid (∀ w,Calls Tryz.prog 78 #[.string ⟨#[80,78,66,82,81,75,112,110,98,114,113,107]⟩,.int .i64 0] w fun e w'=>e=.returned (.string (QX (1)))∧Below w.heap.size w w'):=hid (fun w=>Kt JG 0 (by decide) w)
    go_enter Tryz.func58,Tryz.ntmps58
    go_wp2_with (first
      |(go_at_call 78;refine (HP.out _).mono ?_;rintro e w1 ⟨rfl,hb1⟩)
      |(go_at_call 56;refine (Xq _ _).mono ?_;rintro e w' ⟨rfl,rfl⟩)
      |go_in)
    go_ret
    exact ⟨rfl,hb1⟩
  · have HP:Hid (∀ w,Calls Tryz.prog 78 #[.string ⟨#[80,78,66,82,81,75,112,110,98,114,113,107]⟩,.int .i64 1] w fun e w'=>e=.returned (.string (QX (2)))∧Below w.heap.size w w'):=hid (fun w=>Kt JG 1 (by decide) w)
    go_enter Tryz.func58,Tryz.ntmps58
    go_wp2_with (first
      |(go_at_call 78;refine (HP.out _).mono ?_;rintro e w1 ⟨rfl,hb1⟩)
      |(go_at_call 56;refine (Xq _ _).mono ?_;rintro e w' ⟨rfl,rfl⟩)
      |go_in)
    go_ret
    exact ⟨rfl,hb1⟩
  · have HP:Hid (∀ w,Calls Tryz.prog 78 #[.string ⟨#[80,78,66,82,81,75,112,110,98,114,113,107]⟩,.int .i64 2] w fun e w'=>e=.returned (.string (QX (3)))∧Below w.heap.size w w'):=hid (fun w=>Kt JG 2 (by decide) w)
    go_enter Tryz.func58,Tryz.ntmps58
    go_wp2_with (first
      |(go_at_call 78;refine (HP.out _).mono ?_;rintro e w1 ⟨rfl,hb1⟩)
      |(go_at_call 56;refine (Xq _ _).mono ?_;rintro e w' ⟨rfl,rfl⟩)
      |go_in)
    go_ret
    exact ⟨rfl,hb1⟩
  · have HP:Hid (∀ w,Calls Tryz.prog 78 #[.string ⟨#[80,78,66,82,81,75,112,110,98,114,113,107]⟩,.int .i64 3] w fun e w'=>e=.returned (.string (QX (4)))∧Below w.heap.size w w'):=hid (fun w=>Kt JG 3 (by decide) w)
    go_enter Tryz.func58,Tryz.ntmps58
    go_wp2_with (first
      |(go_at_call 78;refine (HP.out _).mono ?_;rintro e w1 ⟨rfl,hb1⟩)
      |(go_at_call 56;refine (Xq _ _).mono ?_;rintro e w' ⟨rfl,rfl⟩)
      |go_in)
    go_ret
    exact ⟨rfl,hb1⟩
  · have HP:Hid (∀ w,Calls Tryz.prog 78 #[.string ⟨#[80,78,66,82,81,75,112,110,98,114,113,107]⟩,.int .i64 4] w fun e w'=>e=.returned (.string (QX (5)))∧Below w.heap.size w w'):=hid (fun w=>Kt JG 4 (by decide) w)
    go_enter Tryz.func58,Tryz.ntmps58
    go_wp2_with (first
      |(go_at_call 78;refine (HP.out _).mono ?_;rintro e w1 ⟨rfl,hb1⟩)
      |(go_at_call 56;refine (Xq _ _).mono ?_;rintro e w' ⟨rfl,rfl⟩)
      |go_in)
    go_ret
    exact ⟨rfl,hb1⟩
  · have HP:Hid (∀ w,Calls Tryz.prog 78 #[.string ⟨#[80,78,66,82,81,75,112,110,98,114,113,107]⟩,.int .i64 5] w fun e w'=>e=.returned (.string (QX (6)))∧Below w.heap.size w w'):=hid (fun w=>Kt JG 5 (by decide) w)
    go_enter Tryz.func58,Tryz.ntmps58
    go_wp2_with (first
      |(go_at_call 78;refine (HP.out _).mono ?_;rintro e w1 ⟨rfl,hb1⟩)
      |(go_at_call 56;refine (Xq _ _).mono ?_;rintro e w' ⟨rfl,rfl⟩)
      |go_in)
    go_ret
    exact ⟨rfl,hb1⟩
end Go.Proofs.YtaipghemddjecaaGreatDoor
