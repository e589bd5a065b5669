import Derived.Test.YtaipghemddjecaaGreatDoorMiy
import Derived.Test.YtaipghemddjecaaGreatDoorTvy
namespace Go.Proofs.YtaipghemddjecaaGreatDoor
set_option maxHeartbeats 40000000
set_option maxRecDepth 100000
open Go.RowKit
open Go.Maps (Keyed)
set_option linter.unusedVariables false
set_option linter.unusedSimpArgs false
def Vr:ByteArray:=⟨#[101,110,100,10]⟩
def opB:ByteArray:=⟨#[111,112,116,105,111,110,32]⟩
def JL(L:List Nat):List ByteArray:=if L=[] then [Vr] else [Vr,opB]
def Zo:Nat→List Nat→TS→TS×List Nat
 |0,L,s=>(s,L)
 |d+1,L,s=>if s.e=0 then (if (QS (JL L) s).1=0 then ((QS (JL L) s).2,L) else Zo d (QF L (QS (JL L) s).2).2 (QF L (QS (JL L) s).2).1) else (s,L)
def Xw(L:List Nat)(s:TS):TS:=if (Zo 9 L s).1.e=0∧(Zo 9 L s).1.a<(Zo 9 L s).1.t.size then { (Zo 9 L s).1 with e:=2 } else (Zo 9 L s).1
theorem VS{s:TS}(h:s.e≠0)(L:List Nat):∀ d,Zo d L s=(s,L)
 |0=>rfl
 |d+1=>by unfold Zo;rw [if_neg h]
theorem JE(L:List Nat):Jq (JL L)=true:=by unfold JL;split <;> decide +kernel
theorem Qbj(L:List Nat):(JL L).length≤2:=by unfold JL;split <;> decide
theorem vq(L:List Nat):∀ i,i<(JL L).length→(wd (JL L) i).size≤1000:=by unfold JL;split <;> decide
theorem kg{ws:List ByteArray}(hw:Jq ws=true){s:TS}(hs:s.ok)(he:s.e=0)(h:(QS ws s).2.e≠0):(QS ws s).1=0:=by
  unfold QS at h ⊢
  rw [if_pos he] at h ⊢
  rcases ZJ hs.a0 hs.a1 hw with ⟨k,hk,hh,hz,e⟩|⟨hno,e⟩
  · exact absurd (show (QU s.t s.a ws).2.2=0 by rw [e]) h
  · show (QU s.t s.a ws).2.1=0
    rw [e]
theorem Qdj{ws:List ByteArray}(hw:Jq ws=true){s:TS}(hs:s.ok)(he:s.e=0)(h:(QS ws s).2.e=0):0≤(QS ws s).1∧(QS ws s).1<(ws.length:Int):=by
 unfold QS at h ⊢
 rw [if_pos he] at h ⊢
 exact ((XB hs.a0 hs.a1 hw).2.2.2.1 h).2
theorem zp{s:TS}(hs:s.ok)(he:s.e=0):(QS (JL []) s).1=0:=by
  by_cases h:(QS (JL []) s).2.e=0
  · have:=Qdj (JE []) hs he h
    have h2:(JL []).length=1:=rfl
    omega
  · exact kg (JE []) hs he h
theorem jH{L:List Nat}{s:TS}(hL:Opts L)(hne:L≠[])(hs:s.ok):(QF L s).1.ok:=by
  have h1:=qJ hs (Zx hL hne)
  unfold QF
  split
  · exact Vs ((Vj _).ok h1) (by decide)
  · exact h1
theorem vr(L:List Nat)(s:TS):(QF L s).1.le=s.le:=by
  unfold QF
  split
  · exact (Ks _ _).trans ((Qah _ _).trans (VR _ _))
  · exact VR _ _
theorem Kz{L:List Nat}(s:TS)(hL:Opts L):Opts (QF L s).2:=by
  unfold QF
  split
  · exact hL.erase _
  · exact hL
theorem kh{L:List Nat}{s:TS}(hL:Opts L)(hne:L≠[])(hs:s.ok)(he:s.e=0)(h:(QF L s).1.e=0):(QF L s).2.length+1=L.length:=by
  unfold QF at h ⊢
  split
  · rename_i c
    have:=Qdj (Zx hL hne) hs he c
    rw [List.length_map] at this
    rw [List.length_eraseIdx,if_pos (by omega)]
    omega
  · rename_i c
    rw [if_neg c] at h
    exact absurd h c
theorem Vt{w:World}{o:Oper}{ev:Operand→Value}{b:Nat}{L:List Nat}(h:OMap w b L)(x:Operand)(ho:o.op=.call { callee:=.builtin .len,args:=#[x],argTypes:=#[51] })(hx:ev x=.map (some b)):
 (execOp ev o).run Tryz.prog w=.ok (.value (Ii (L.length:Int))) w:=by
 have:=World.ownsMap.len h QcP o.type
 rw [ka] at this
 unfold execOp
 simp [ho,hx,resolve,invoke,builtin,this,Result.andThen]
theorem zX(g:Nat)(w:World):(Instr.fieldAt 54 (Pg g 0) 0).run Tryz.prog w=.ok (Pg g 0) w:=by kernel_rfl
theorem jI(g:Nat)(w:World):(Instr.fieldAt 54 (Pg g 0) 1).run Tryz.prog w=.ok (Pg g 1) w:=by kernel_rfl
theorem XF:ScT Tryz.prog 3:=⟨fun w=>by kernel_rfl,fun w=>by kernel_rfl⟩
abbrev Vk:Array Value:=#[.string (⟨#[101,110,100,10]⟩:ByteArray),.string (⟨#[111,112,116,105,111,110,32]⟩:ByteArray)]
theorem Qdk{w:World}{gl:Nat}(h:Blk w gl 9 Vk):SlT w 9 (.slice (some ⟨gl,0,none⟩) 1 2) ((JL []).map Value.string):=
 .inr ⟨gl,0,2,Vk,rfl,h,by decide,by unfold maxLen;decide,by decide,rfl⟩
theorem Qdl{w:World}{gl:Nat}{L:List Nat}(hL:L≠[])(h:Blk w gl 9 Vk):SlT w 9 (.slice (some ⟨gl,0,none⟩) 2 2) ((JL L).map Value.string):=by
 unfold JL
 rw [if_neg hL]
 exact .inr ⟨gl,0,2,Vk,rfl,h,by decide,by unfold maxLen;decide,by decide,rfl⟩
theorem qe(s0:TS)(L0:List Nat){g b:Nat}{w:World}(hB:RB w g s0)(hO:OMap w b L0)(hL:Opts L0)(hs:s0.ok)(hle:s0.le=.map (some b)):
 Calls Tryz.prog 20 #[Pg g 0] w fun e w'=>e=.returned (.tuple #[])∧RB w' g (Xw L0 s0)∧Tw g b w.heap.size w w':=by
 have BK:=hid hB
 have OM:=hid hO
 have HL:=hid (Tw.refl g b w.heap.size w)
 have HS:=hid hs
 have HLE:=hid hle
 have HOP:=hid hL
 have KB:=hid (OMap.ne hO hB.blk)
 have GLT:=hid hB.blk.lt
 have BLT:=hid hO.lt
 obtain ⟨R,hR⟩:∃ R,Zo 9 L0 s0=R:=⟨_,rfl⟩
 have HR:=hid hR
 have HN:=hid (show s0.e=0→L0.length+2≤9 from fun _=>by have:=hL.len;omega)
 clear hB hO hs hle hL hR
 go_enter Tryz.func20,Tryz.ntmps20
 go_wp2_with fail
 (try simp only [Act.put,sI,sZ,sS])
 go_loopg [2] 9 (fun kq v2 w'=>∃ (u2:Value) (s:TS) (L:List Nat),u2=v2∧Hid (Zo kq L s=R)∧Hid (s.e=0→L.length+2≤kq)∧Hid (RB w' g s)∧Hid (OMap w' b L)∧Hid (Opts L)∧Hid s.ok∧Hid (s.le=.map (some b))∧Hid (Tw g b w.heap.size w w'))
 case atStart=>exact ⟨_,s0,L0,rfl,HR,HN,BK,OM,HOP,HS,HLE,HL⟩
 case round=>
  have HR0:=HR
  clear HN BK OM HOP HS HLE HL HR
  obtain ⟨u2,s,L,rfl,HR,HN,BK,OM,HOP,HS,HLE,HL⟩:=hrel
  by_cases c0:s.e=0
  ·
   obtain ⟨k,rfl⟩:∃ k,gk=k+1:=⟨gk-1,by have:=HN.out c0;omega⟩
   have c0a:(s.e==0)=true:=beq_iff_eq.mpr c0
   have C0:=hid c0
   clear c0
   obtain ⟨x,hx⟩:∃ x,QS (JL L) s=x:=⟨_,rfl⟩
   have HX:=hid hx
   have XOK:=hid (show x.2.ok from by rw [← hx];exact qJ HS.out (JE L))
   have XLE:=hid (show x.2.le=.map (some b) from by rw [← hx,VR];exact HLE.out)
   have HRX:=hid (show (if x.1=0 then (x.2,L) else Zo k (QF L x.2).2 (QF L x.2).1)=R from by have:=HR.out;unfold Zo at this;rw [if_pos C0.out,hx] at this;exact this)
   have XZ:=hid (show x.2.e≠0→x.1=0 from fun h=>by rw [← hx] at h ⊢;exact kg (JE L) HS.out C0.out h)
   have CC:=hid (show ∀ (w2:World) (v:Value),RB w2 g s→SlT w2 9 v ((JL L).map Value.string)→Calls Tryz.prog 37 #[Pg g 0,v] w2 fun e w'=>e=.returned (Ii x.1)∧RB w' g x.2∧Bex g w2.heap.size w2 w' from fun w2 v hB2 hv=>by
    rw [← hx]
    exact qU s (JL L) v hB2 HS.out hv (by have:=Qbj L;omega) (vq L))
   clear hx
   by_cases cL:L=[]
   ·
    have cLa:((L.length:Int)==0)=true:=by rw [cL];rfl
    have XN:=hid (show x.1=0 from by rw [← HX.out,cL];exact zp HS.out C0.out)
    have cxa:(x.1==0)=true:=beq_iff_eq.mpr XN.out
    have SLT:=hid (show ∀ (w2:World) (gl:Nat),Blk w2 gl 9 Vk→SlT w2 9 (.slice (some ⟨gl,0,none⟩) 1 2) ((JL L).map Value.string) from fun w2 gl h=>by rw [cL];exact Qdk h)
    have CL:=hid cL
    clear cL
    by_cases ce:x.2.e=0
    ·
     have cea:(x.2.e==0)=true:=beq_iff_eq.mpr ce
     have CE:=hid ce
     clear ce
     by_cases ca:x.2.a<(x.2.t.size:Int)
     ·
      have caa:decide (x.2.a<(x.2.t.size:Int))=true:=decide_eq_true ca
      have CA:=hid ca
      clear ca
      have k1:=True.intro
      go_wp2_with (first
       |((with_reducible refine Qa (N:=5) rfl ?_);refine Qb (Pg g 2) (Qc 54 2 (Pg g 0) (Pg g 2) (Zt g) _ rfl rfl) rfl ?_)
       |((with_reducible refine Qa (N:=6) rfl ?_);refine Qb (Ii s.e) (Qd Zu g 2 (Ii s.e) (TC s) BK.out.blk ((QC (a:=3) rfl 2 (by decide)).trans rfl) _ rfl rfl) rfl ?_)
       |((with_reducible refine Qa (N:=8) rfl ?_);obtain ⟨gl,hgl⟩:∃ g_,wr.heap.size=g_:=⟨_,rfl⟩;refine XY (e:=9) 2 Vk gl hgl rfl _ rfl (fun w_=>by (try simp only [List.map_toArray,List.map_cons,List.map_nil]);kernel_rfl) ?_;intro w2 hb_ hB_ hs_;have BK2:=hid (BK.out.move (hb_.block g (by have:=BK.out.blk.lt;omega)));have OM2:=hid (OM.out.move (hb_.block b (by have:=OM.out.lt;omega)));have HL2:=hid (HL.out.trans (Tw.of_below (hb_.mono (show wr.heap.size≤gl by omega)) g b) HL.out.size);have BKl:=hid hB_;clear hb_ hB_ hs_ hgl)
       |((with_reducible refine Qa (N:=11) rfl ?_);refine Qb (Pg g 79) (Qc 54 5 (Pg g 0) (Pg g 79) (KV g) _ rfl rfl) rfl ?_)
       |((with_reducible refine Qa (N:=12) rfl ?_);refine Qb (.map (some b)) (Qd KW g 79 (.map (some b)) (TC s) BK2.out.blk ((ZK (a:=3) (n:=64) rfl BK2.out.len 12 79 (by decide)).trans (by show some s.le=_;rw [HLE.out])) _ rfl rfl) rfl ?_)
       |((with_reducible refine Qa (N:=13) rfl ?_);refine Qb (Ii (L.length:Int)) (Vt OM2.out _ rfl rfl) rfl ?_)
       |((with_reducible refine Qa (N:=16) rfl ?_);refine Qb (.slice (some ⟨gl,0,none⟩) 1 2) (kQ jG ⟨_,Kx.size⟩ _ 2 2 _ rfl 1 (by decide) (by decide) (by decide) _ _ rfl rfl rfl) rfl ?_)
       |(go_at_call 37;clear k1;refine (CC.out _ _ BK2.out (SLT.out _ _ BKl.out)).mono ?_;rintro e_ w4 ⟨rfl,hB_,hx_⟩;have OM4:=hid (OM2.out.move (hx_.block b OM2.out.lt KB.out));have HL4:=hid (HL2.out.trans (Tw.of_bex hx_ b) HL2.out.size);have BK4:=hid hB_;clear hB_ hx_))
      (try simp only [Act.put,sI,sZ,sS])
      refine QL (fun z_=>RB z_ g x.2) [] [(0,2),(1,2),(2,2),(3,1),(4,2),(5,2),(6,2),(7,2),(8,2),(9,1),(10,2),(11,2),(12,2),(13,1),(14,2),(15,2),(16,2)] (by kernel_rfl) (by kernel_rfl) (by kernel_rfl) rfl ?_
      intro wt hb_
      have BKt:=hid (BK4.out.move (hb_.block g BK4.out.blk.lt))
      have HLt:=hid (HL4.out.trans (Tw.of_below hb_ g b) HL4.out.size)
      clear hb_
      refine Qe (Pg g 0) rfl (fun z_=>Qo (.tmp 0) (.inl rfl) _ rfl) rfl rfl ?_
      intro t_ k_;simp only [sI,sZ,sS] at k_;subst k_
      refine Qe (Pg g 0) rfl (fun z_=>by go_simp) rfl rfl ?_
      intro t_ k_;simp only [sI,sZ,sS] at k_;subst k_
      refine Qe (Pg g 2) rfl (fun z_=>Qc 54 2 (Pg g 0) (Pg g 2) (Zt g) _ rfl rfl) rfl rfl ?_
      intro t_ k_;simp only [sI,sZ,sS] at k_;subst k_
      refine QA (Ii x.2.e) BKt.out rfl (fun z_ hS_=>Qd Zu g 2 (Ii x.2.e) (TC x.2) hS_.blk ((QC (a:=3) rfl 2 (by decide)).trans rfl) _ rfl rfl) rfl rfl ?_
      intro t_ k_;simp only [sI,sZ,sS] at k_;subst k_
      refine Qe (.bool true) rfl (fun z_=>by go_simp) rfl rfl ?_
      intro t_ k_;simp only [sI,sZ,sS] at k_;subst k_
      refine Qe (.bool true) rfl (fun z_=>by go_simp) rfl rfl ?_
      intro t_ k_;simp only [sI,sZ,sS] at k_;subst k_
      refine Qe (Pg g 0) rfl (fun z_=>Qo (.tmp 0) (.inl rfl) _ rfl) rfl rfl ?_
      intro t_ k_;simp only [sI,sZ,sS] at k_;subst k_
      refine Qe (Pg g 0) rfl (fun z_=>by go_simp) rfl rfl ?_
      intro t_ k_;simp only [sI,sZ,sS] at k_;subst k_
      refine Qe (Pg g 1) rfl (fun z_=>Qc 54 1 (Pg g 0) (Pg g 1) (jI g) _ rfl rfl) rfl rfl ?_
      intro t_ k_;simp only [sI,sZ,sS] at k_;subst k_
      refine QA (Ii x.2.a) BKt.out rfl (fun z_ hS_=>Qd XF g 1 (Ii x.2.a) (TC x.2) hS_.blk ((QC (a:=3) rfl 1 (by decide)).trans rfl) _ rfl rfl) rfl rfl ?_
      intro t_ k_;simp only [sI,sZ,sS] at k_;subst k_
      refine Qe (Pg g 0) rfl (fun z_=>Qo (.tmp 0) (.inl rfl) _ rfl) rfl rfl ?_
      intro t_ k_;simp only [sI,sZ,sS] at k_;subst k_
      refine Qe (Pg g 0) rfl (fun z_=>by go_simp) rfl rfl ?_
      intro t_ k_;simp only [sI,sZ,sS] at k_;subst k_
      refine Qe (Pg g 0) rfl (fun z_=>Qc 54 0 (Pg g 0) (Pg g 0) (zX g) _ rfl rfl) rfl rfl ?_
      intro t_ k_;simp only [sI,sZ,sS] at k_;subst k_
      refine QA (.string x.2.t) BKt.out rfl (fun z_ hS_=>Qd Kx g 0 (.string x.2.t) (TC x.2) hS_.blk ((QC (a:=3) rfl 0 (by decide)).trans rfl) _ rfl rfl) rfl rfl ?_
      intro t_ k_;simp only [sI,sZ,sS] at k_;subst k_
      refine Qe (Ii (x.2.t.size:Int)) rfl (fun z_=>by go_simp) rfl rfl ?_
      intro t_ k_;simp only [sI,sZ,sS] at k_;subst k_
      refine Qe (.bool true) rfl (fun z_=>by go_simp) rfl rfl ?_
      intro t_ k_;simp only [sI,sZ,sS] at k_;subst k_
      refine Qe (.bool true) rfl (fun z_=>by go_simp) rfl rfl ?_
      intro t_ k_;simp only [sI,sZ,sS] at k_;subst k_
      refine JH ?_
      go_wp2_with (first
       |((with_reducible refine Qa (N:=47) rfl ?_);refine Qb (Pg g 2) (Qc 54 2 (Pg g 0) (Pg g 2) (Zt g) _ rfl rfl) rfl ?_)
       |((with_reducible refine Qf (t:=33) (p:=47) rfl ?_);refine QH Zu g 2 (Ii 2) (TC x.2) (TC { x.2 with e:=2 }) BKt.out.blk (Xm (a:=3) (n:=64) (c:=13) rfl BKt.out.len rfl (m:=2) (by decide)) rfl rfl ((Xr (a:=3) rfl 2 (by decide) _).trans rfl) rfl _ _ rfl rfl rfl ?_;intro we ho_ hB_;have HLe:=hid (HLt.out.trans (Tw.of_off ho_ b wt.heap.size) HLt.out.size);have BKe:=hid (RB.mk (s:={ x.2 with e:=2 }) BKt.out.len hB_);clear ho_ hB_))
      (first|go_end0|refine bodyPost_ret (results_none rfl _ _ _) rfl ?_)
      have RES:Xw L0 s0={ x.2 with e:=2 }:=by unfold Xw;rw [HR0.out,← HRX.out,if_pos XN.out];exact if_pos ⟨CE.out,CA.out⟩
      rw [RES]
      exact ⟨rfl,BKe.out,HLe.out⟩
     ·
      have caa:decide (x.2.a<(x.2.t.size:Int))=false:=decide_eq_false ca
      have CA:=hid ca
      clear ca
      have k1:=True.intro
      go_wp2_with (first
       |((with_reducible refine Qa (N:=5) rfl ?_);refine Qb (Pg g 2) (Qc 54 2 (Pg g 0) (Pg g 2) (Zt g) _ rfl rfl) rfl ?_)
       |((with_reducible refine Qa (N:=6) rfl ?_);refine Qb (Ii s.e) (Qd Zu g 2 (Ii s.e) (TC s) BK.out.blk ((QC (a:=3) rfl 2 (by decide)).trans rfl) _ rfl rfl) rfl ?_)
       |((with_reducible refine Qa (N:=8) rfl ?_);obtain ⟨gl,hgl⟩:∃ g_,wr.heap.size=g_:=⟨_,rfl⟩;refine XY (e:=9) 2 Vk gl hgl rfl _ rfl (fun w_=>by (try simp only [List.map_toArray,List.map_cons,List.map_nil]);kernel_rfl) ?_;intro w2 hb_ hB_ hs_;have BK2:=hid (BK.out.move (hb_.block g (by have:=BK.out.blk.lt;omega)));have OM2:=hid (OM.out.move (hb_.block b (by have:=OM.out.lt;omega)));have HL2:=hid (HL.out.trans (Tw.of_below (hb_.mono (show wr.heap.size≤gl by omega)) g b) HL.out.size);have BKl:=hid hB_;clear hb_ hB_ hs_ hgl)
       |((with_reducible refine Qa (N:=11) rfl ?_);refine Qb (Pg g 79) (Qc 54 5 (Pg g 0) (Pg g 79) (KV g) _ rfl rfl) rfl ?_)
       |((with_reducible refine Qa (N:=12) rfl ?_);refine Qb (.map (some b)) (Qd KW g 79 (.map (some b)) (TC s) BK2.out.blk ((ZK (a:=3) (n:=64) rfl BK2.out.len 12 79 (by decide)).trans (by show some s.le=_;rw [HLE.out])) _ rfl rfl) rfl ?_)
       |((with_reducible refine Qa (N:=13) rfl ?_);refine Qb (Ii (L.length:Int)) (Vt OM2.out _ rfl rfl) rfl ?_)
       |((with_reducible refine Qa (N:=16) rfl ?_);refine Qb (.slice (some ⟨gl,0,none⟩) 1 2) (kQ jG ⟨_,Kx.size⟩ _ 2 2 _ rfl 1 (by decide) (by decide) (by decide) _ _ rfl rfl rfl) rfl ?_)
       |(go_at_call 37;clear k1;refine (CC.out _ _ BK2.out (SLT.out _ _ BKl.out)).mono ?_;rintro e_ w4 ⟨rfl,hB_,hx_⟩;have OM4:=hid (OM2.out.move (hx_.block b OM2.out.lt KB.out));have HL4:=hid (HL2.out.trans (Tw.of_bex hx_ b) HL2.out.size);have BK4:=hid hB_;clear hB_ hx_))
      (try simp only [Act.put,sI,sZ,sS])
      refine QL (fun z_=>RB z_ g x.2) [] [(0,2),(1,2),(2,2),(3,1),(4,2),(5,2),(6,2),(7,2),(8,2),(9,1),(10,2),(11,2),(12,2),(13,1),(14,2),(15,2),(16,2)] (by kernel_rfl) (by kernel_rfl) (by kernel_rfl) rfl ?_
      intro wt hb_
      have BKt:=hid (BK4.out.move (hb_.block g BK4.out.blk.lt))
      have HLt:=hid (HL4.out.trans (Tw.of_below hb_ g b) HL4.out.size)
      clear hb_
      refine Qe (Pg g 0) rfl (fun z_=>Qo (.tmp 0) (.inl rfl) _ rfl) rfl rfl ?_
      intro t_ k_;simp only [sI,sZ,sS] at k_;subst k_
      refine Qe (Pg g 0) rfl (fun z_=>by go_simp) rfl rfl ?_
      intro t_ k_;simp only [sI,sZ,sS] at k_;subst k_
      refine Qe (Pg g 2) rfl (fun z_=>Qc 54 2 (Pg g 0) (Pg g 2) (Zt g) _ rfl rfl) rfl rfl ?_
      intro t_ k_;simp only [sI,sZ,sS] at k_;subst k_
      refine QA (Ii x.2.e) BKt.out rfl (fun z_ hS_=>Qd Zu g 2 (Ii x.2.e) (TC x.2) hS_.blk ((QC (a:=3) rfl 2 (by decide)).trans rfl) _ rfl rfl) rfl rfl ?_
      intro t_ k_;simp only [sI,sZ,sS] at k_;subst k_
      refine Qe (.bool true) rfl (fun z_=>by go_simp) rfl rfl ?_
      intro t_ k_;simp only [sI,sZ,sS] at k_;subst k_
      refine Qe (.bool true) rfl (fun z_=>by go_simp) rfl rfl ?_
      intro t_ k_;simp only [sI,sZ,sS] at k_;subst k_
      refine Qe (Pg g 0) rfl (fun z_=>Qo (.tmp 0) (.inl rfl) _ rfl) rfl rfl ?_
      intro t_ k_;simp only [sI,sZ,sS] at k_;subst k_
      refine Qe (Pg g 0) rfl (fun z_=>by go_simp) rfl rfl ?_
      intro t_ k_;simp only [sI,sZ,sS] at k_;subst k_
      refine Qe (Pg g 1) rfl (fun z_=>Qc 54 1 (Pg g 0) (Pg g 1) (jI g) _ rfl rfl) rfl rfl ?_
      intro t_ k_;simp only [sI,sZ,sS] at k_;subst k_
      refine QA (Ii x.2.a) BKt.out rfl (fun z_ hS_=>Qd XF g 1 (Ii x.2.a) (TC x.2) hS_.blk ((QC (a:=3) rfl 1 (by decide)).trans rfl) _ rfl rfl) rfl rfl ?_
      intro t_ k_;simp only [sI,sZ,sS] at k_;subst k_
      refine Qe (Pg g 0) rfl (fun z_=>Qo (.tmp 0) (.inl rfl) _ rfl) rfl rfl ?_
      intro t_ k_;simp only [sI,sZ,sS] at k_;subst k_
      refine Qe (Pg g 0) rfl (fun z_=>by go_simp) rfl rfl ?_
      intro t_ k_;simp only [sI,sZ,sS] at k_;subst k_
      refine Qe (Pg g 0) rfl (fun z_=>Qc 54 0 (Pg g 0) (Pg g 0) (zX g) _ rfl rfl) rfl rfl ?_
      intro t_ k_;simp only [sI,sZ,sS] at k_;subst k_
      refine QA (.string x.2.t) BKt.out rfl (fun z_ hS_=>Qd Kx g 0 (.string x.2.t) (TC x.2) hS_.blk ((QC (a:=3) rfl 0 (by decide)).trans rfl) _ rfl rfl) rfl rfl ?_
      intro t_ k_;simp only [sI,sZ,sS] at k_;subst k_
      refine Qe (Ii (x.2.t.size:Int)) rfl (fun z_=>by go_simp) rfl rfl ?_
      intro t_ k_;simp only [sI,sZ,sS] at k_;subst k_
      refine Qe (.bool false) rfl (fun z_=>by go_simp) rfl rfl ?_
      intro t_ k_;simp only [sI,sZ,sS] at k_;subst k_
      refine Qe (.bool false) rfl (fun z_=>by go_simp) rfl rfl ?_
      intro t_ k_;simp only [sI,sZ,sS] at k_;subst k_
      refine JH ?_
      go_wp2_with fail
      (first|go_end0|refine bodyPost_ret (results_none rfl _ _ _) rfl ?_)
      have RES:Xw L0 s0=x.2:=by unfold Xw;rw [HR0.out,← HRX.out,if_pos XN.out];exact if_neg (fun h=>by have h1_:=CA.out;have h2_:=h.2;dsimp only at h2_;omega)
      rw [RES]
      exact ⟨rfl,BKt.out,HLt.out⟩
    ·
     have cea:(x.2.e==0)=false:=beq_eq_false_iff_ne.mpr ce
     have CE:=hid ce
     clear ce
     have k1:=True.intro
     go_wp2_with (first
      |((with_reducible refine Qa (N:=5) rfl ?_);refine Qb (Pg g 2) (Qc 54 2 (Pg g 0) (Pg g 2) (Zt g) _ rfl rfl) rfl ?_)
      |((with_reducible refine Qa (N:=6) rfl ?_);refine Qb (Ii s.e) (Qd Zu g 2 (Ii s.e) (TC s) BK.out.blk ((QC (a:=3) rfl 2 (by decide)).trans rfl) _ rfl rfl) rfl ?_)
      |((with_reducible refine Qa (N:=8) rfl ?_);obtain ⟨gl,hgl⟩:∃ g_,wr.heap.size=g_:=⟨_,rfl⟩;refine XY (e:=9) 2 Vk gl hgl rfl _ rfl (fun w_=>by (try simp only [List.map_toArray,List.map_cons,List.map_nil]);kernel_rfl) ?_;intro w2 hb_ hB_ hs_;have BK2:=hid (BK.out.move (hb_.block g (by have:=BK.out.blk.lt;omega)));have OM2:=hid (OM.out.move (hb_.block b (by have:=OM.out.lt;omega)));have HL2:=hid (HL.out.trans (Tw.of_below (hb_.mono (show wr.heap.size≤gl by omega)) g b) HL.out.size);have BKl:=hid hB_;clear hb_ hB_ hs_ hgl)
      |((with_reducible refine Qa (N:=11) rfl ?_);refine Qb (Pg g 79) (Qc 54 5 (Pg g 0) (Pg g 79) (KV g) _ rfl rfl) rfl ?_)
      |((with_reducible refine Qa (N:=12) rfl ?_);refine Qb (.map (some b)) (Qd KW g 79 (.map (some b)) (TC s) BK2.out.blk ((ZK (a:=3) (n:=64) rfl BK2.out.len 12 79 (by decide)).trans (by show some s.le=_;rw [HLE.out])) _ rfl rfl) rfl ?_)
      |((with_reducible refine Qa (N:=13) rfl ?_);refine Qb (Ii (L.length:Int)) (Vt OM2.out _ rfl rfl) rfl ?_)
      |((with_reducible refine Qa (N:=16) rfl ?_);refine Qb (.slice (some ⟨gl,0,none⟩) 1 2) (kQ jG ⟨_,Kx.size⟩ _ 2 2 _ rfl 1 (by decide) (by decide) (by decide) _ _ rfl rfl rfl) rfl ?_)
      |(go_at_call 37;clear k1;refine (CC.out _ _ BK2.out (SLT.out _ _ BKl.out)).mono ?_;rintro e_ w4 ⟨rfl,hB_,hx_⟩;have OM4:=hid (OM2.out.move (hx_.block b OM2.out.lt KB.out));have HL4:=hid (HL2.out.trans (Tw.of_bex hx_ b) HL2.out.size);have BK4:=hid hB_;clear hB_ hx_))
     (try simp only [Act.put,sI,sZ,sS])
     refine QL (fun z_=>RB z_ g x.2) [] [(0,2),(1,2),(2,2),(3,1),(4,2),(5,2),(6,2),(7,2),(8,2),(9,2),(10,2),(11,2),(12,2),(13,2),(14,2),(15,2),(16,2)] (by kernel_rfl) (by kernel_rfl) (by kernel_rfl) rfl ?_
     intro wt hb_
     have BKt:=hid (BK4.out.move (hb_.block g BK4.out.blk.lt))
     have HLt:=hid (HL4.out.trans (Tw.of_below hb_ g b) HL4.out.size)
     clear hb_
     refine Qe (Pg g 0) rfl (fun z_=>Qo (.tmp 0) (.inl rfl) _ rfl) rfl rfl ?_
     intro t_ k_;simp only [sI,sZ,sS] at k_;subst k_
     refine Qe (Pg g 0) rfl (fun z_=>by go_simp) rfl rfl ?_
     intro t_ k_;simp only [sI,sZ,sS] at k_;subst k_
     refine Qe (Pg g 2) rfl (fun z_=>Qc 54 2 (Pg g 0) (Pg g 2) (Zt g) _ rfl rfl) rfl rfl ?_
     intro t_ k_;simp only [sI,sZ,sS] at k_;subst k_
     refine QA (Ii x.2.e) BKt.out rfl (fun z_ hS_=>Qd Zu g 2 (Ii x.2.e) (TC x.2) hS_.blk ((QC (a:=3) rfl 2 (by decide)).trans rfl) _ rfl rfl) rfl rfl ?_
     intro t_ k_;simp only [sI,sZ,sS] at k_;subst k_
     refine Qe (.bool false) rfl (fun z_=>by go_simp) rfl rfl ?_
     intro t_ k_;simp only [sI,sZ,sS] at k_;subst k_
     refine Qe (.bool false) rfl (fun z_=>by go_simp) rfl rfl ?_
     intro t_ k_;simp only [sI,sZ,sS] at k_;subst k_
     refine JU 5 false rfl rfl rfl rfl ?_
     intro t_ k_;simp only [sI,sZ,sS] at k_;subst k_
     refine JU 5 false rfl rfl rfl rfl ?_
     intro t_ k_;simp only [sI,sZ,sS] at k_;subst k_
     refine JU 5 false rfl rfl rfl rfl ?_
     intro t_ k_;simp only [sI,sZ,sS] at k_;subst k_
     refine JU 5 false rfl rfl rfl rfl ?_
     intro t_ k_;simp only [sI,sZ,sS] at k_;subst k_
     refine JU 5 false rfl rfl rfl rfl ?_
     intro t_ k_;simp only [sI,sZ,sS] at k_;subst k_
     refine JU 5 false rfl rfl rfl rfl ?_
     intro t_ k_;simp only [sI,sZ,sS] at k_;subst k_
     refine JU 5 false rfl rfl rfl rfl ?_
     intro t_ k_;simp only [sI,sZ,sS] at k_;subst k_
     refine JU 5 false rfl rfl rfl rfl ?_
     intro t_ k_;simp only [sI,sZ,sS] at k_;subst k_
     refine JU 5 false rfl rfl rfl rfl ?_
     intro t_ k_;simp only [sI,sZ,sS] at k_;subst k_
     refine JU 5 false rfl rfl rfl rfl ?_
     intro t_ k_;simp only [sI,sZ,sS] at k_;subst k_
     refine Qe (.bool false) rfl (fun z_=>by go_simp) rfl rfl ?_
     intro t_ k_;simp only [sI,sZ,sS] at k_;subst k_
     refine JH ?_
     go_wp2_with fail
     (first|go_end0|refine bodyPost_ret (results_none rfl _ _ _) rfl ?_)
     have RES:Xw L0 s0=x.2:=by unfold Xw;rw [HR0.out,← HRX.out,if_pos XN.out];exact if_neg (fun h=>CE.out h.1)
     rw [RES]
     exact ⟨rfl,BKt.out,HLt.out⟩
   ·
    have cLa:((L.length:Int)==0)=false:=beq_eq_false_iff_ne.mpr (by have:=List.length_pos_iff.2 cL;omega)
    have SLT:=hid (show ∀ (w2:World) (gl:Nat),Blk w2 gl 9 Vk→SlT w2 9 (.slice (some ⟨gl,0,none⟩) 2 2) ((JL L).map Value.string) from fun w2 gl h=>Qdl cL h)
    have CL:=hid cL
    clear cL
    by_cases cx:x.1=0
    ·
     have cxa:(x.1==0)=true:=beq_iff_eq.mpr cx
     have XN:=hid cx
     clear cx
     by_cases ce:x.2.e=0
     ·
      have cea:(x.2.e==0)=true:=beq_iff_eq.mpr ce
      have CE:=hid ce
      clear ce
      by_cases ca:x.2.a<(x.2.t.size:Int)
      ·
       have caa:decide (x.2.a<(x.2.t.size:Int))=true:=decide_eq_true ca
       have CA:=hid ca
       clear ca
       have k1:=True.intro
       go_wp2_with (first
        |((with_reducible refine Qa (N:=5) rfl ?_);refine Qb (Pg g 2) (Qc 54 2 (Pg g 0) (Pg g 2) (Zt g) _ rfl rfl) rfl ?_)
        |((with_reducible refine Qa (N:=6) rfl ?_);refine Qb (Ii s.e) (Qd Zu g 2 (Ii s.e) (TC s) BK.out.blk ((QC (a:=3) rfl 2 (by decide)).trans rfl) _ rfl rfl) rfl ?_)
        |((with_reducible refine Qa (N:=8) rfl ?_);obtain ⟨gl,hgl⟩:∃ g_,wr.heap.size=g_:=⟨_,rfl⟩;refine XY (e:=9) 2 Vk gl hgl rfl _ rfl (fun w_=>by (try simp only [List.map_toArray,List.map_cons,List.map_nil]);kernel_rfl) ?_;intro w2 hb_ hB_ hs_;have BK2:=hid (BK.out.move (hb_.block g (by have:=BK.out.blk.lt;omega)));have OM2:=hid (OM.out.move (hb_.block b (by have:=OM.out.lt;omega)));have HL2:=hid (HL.out.trans (Tw.of_below (hb_.mono (show wr.heap.size≤gl by omega)) g b) HL.out.size);have BKl:=hid hB_;clear hb_ hB_ hs_ hgl)
        |((with_reducible refine Qa (N:=11) rfl ?_);refine Qb (Pg g 79) (Qc 54 5 (Pg g 0) (Pg g 79) (KV g) _ rfl rfl) rfl ?_)
        |((with_reducible refine Qa (N:=12) rfl ?_);refine Qb (.map (some b)) (Qd KW g 79 (.map (some b)) (TC s) BK2.out.blk ((ZK (a:=3) (n:=64) rfl BK2.out.len 12 79 (by decide)).trans (by show some s.le=_;rw [HLE.out])) _ rfl rfl) rfl ?_)
        |((with_reducible refine Qa (N:=13) rfl ?_);refine Qb (Ii (L.length:Int)) (Vt OM2.out _ rfl rfl) rfl ?_)
        |(go_at_call 37;clear k1;refine (CC.out _ _ BK2.out (SLT.out _ _ BKl.out)).mono ?_;rintro e_ w4 ⟨rfl,hB_,hx_⟩;have OM4:=hid (OM2.out.move (hx_.block b OM2.out.lt KB.out));have HL4:=hid (HL2.out.trans (Tw.of_bex hx_ b) HL2.out.size);have BK4:=hid hB_;clear hB_ hx_))
       (try simp only [Act.put,sI,sZ,sS])
       refine QL (fun z_=>RB z_ g x.2) [] [(0,2),(1,2),(2,2),(3,1),(4,2),(5,2),(6,2),(7,2),(8,2),(9,1),(10,2),(11,2),(12,2),(13,1),(14,2),(15,2),(16,2)] (by kernel_rfl) (by kernel_rfl) (by kernel_rfl) rfl ?_
       intro wt hb_
       have BKt:=hid (BK4.out.move (hb_.block g BK4.out.blk.lt))
       have HLt:=hid (HL4.out.trans (Tw.of_below hb_ g b) HL4.out.size)
       clear hb_
       refine Qe (Pg g 0) rfl (fun z_=>Qo (.tmp 0) (.inl rfl) _ rfl) rfl rfl ?_
       intro t_ k_;simp only [sI,sZ,sS] at k_;subst k_
       refine Qe (Pg g 0) rfl (fun z_=>by go_simp) rfl rfl ?_
       intro t_ k_;simp only [sI,sZ,sS] at k_;subst k_
       refine Qe (Pg g 2) rfl (fun z_=>Qc 54 2 (Pg g 0) (Pg g 2) (Zt g) _ rfl rfl) rfl rfl ?_
       intro t_ k_;simp only [sI,sZ,sS] at k_;subst k_
       refine QA (Ii x.2.e) BKt.out rfl (fun z_ hS_=>Qd Zu g 2 (Ii x.2.e) (TC x.2) hS_.blk ((QC (a:=3) rfl 2 (by decide)).trans rfl) _ rfl rfl) rfl rfl ?_
       intro t_ k_;simp only [sI,sZ,sS] at k_;subst k_
       refine Qe (.bool true) rfl (fun z_=>by go_simp) rfl rfl ?_
       intro t_ k_;simp only [sI,sZ,sS] at k_;subst k_
       refine Qe (.bool true) rfl (fun z_=>by go_simp) rfl rfl ?_
       intro t_ k_;simp only [sI,sZ,sS] at k_;subst k_
       refine Qe (Pg g 0) rfl (fun z_=>Qo (.tmp 0) (.inl rfl) _ rfl) rfl rfl ?_
       intro t_ k_;simp only [sI,sZ,sS] at k_;subst k_
       refine Qe (Pg g 0) rfl (fun z_=>by go_simp) rfl rfl ?_
       intro t_ k_;simp only [sI,sZ,sS] at k_;subst k_
       refine Qe (Pg g 1) rfl (fun z_=>Qc 54 1 (Pg g 0) (Pg g 1) (jI g) _ rfl rfl) rfl rfl ?_
       intro t_ k_;simp only [sI,sZ,sS] at k_;subst k_
       refine QA (Ii x.2.a) BKt.out rfl (fun z_ hS_=>Qd XF g 1 (Ii x.2.a) (TC x.2) hS_.blk ((QC (a:=3) rfl 1 (by decide)).trans rfl) _ rfl rfl) rfl rfl ?_
       intro t_ k_;simp only [sI,sZ,sS] at k_;subst k_
       refine Qe (Pg g 0) rfl (fun z_=>Qo (.tmp 0) (.inl rfl) _ rfl) rfl rfl ?_
       intro t_ k_;simp only [sI,sZ,sS] at k_;subst k_
       refine Qe (Pg g 0) rfl (fun z_=>by go_simp) rfl rfl ?_
       intro t_ k_;simp only [sI,sZ,sS] at k_;subst k_
       refine Qe (Pg g 0) rfl (fun z_=>Qc 54 0 (Pg g 0) (Pg g 0) (zX g) _ rfl rfl) rfl rfl ?_
       intro t_ k_;simp only [sI,sZ,sS] at k_;subst k_
       refine QA (.string x.2.t) BKt.out rfl (fun z_ hS_=>Qd Kx g 0 (.string x.2.t) (TC x.2) hS_.blk ((QC (a:=3) rfl 0 (by decide)).trans rfl) _ rfl rfl) rfl rfl ?_
       intro t_ k_;simp only [sI,sZ,sS] at k_;subst k_
       refine Qe (Ii (x.2.t.size:Int)) rfl (fun z_=>by go_simp) rfl rfl ?_
       intro t_ k_;simp only [sI,sZ,sS] at k_;subst k_
       refine Qe (.bool true) rfl (fun z_=>by go_simp) rfl rfl ?_
       intro t_ k_;simp only [sI,sZ,sS] at k_;subst k_
       refine Qe (.bool true) rfl (fun z_=>by go_simp) rfl rfl ?_
       intro t_ k_;simp only [sI,sZ,sS] at k_;subst k_
       refine JH ?_
       go_wp2_with (first
        |((with_reducible refine Qa (N:=47) rfl ?_);refine Qb (Pg g 2) (Qc 54 2 (Pg g 0) (Pg g 2) (Zt g) _ rfl rfl) rfl ?_)
        |((with_reducible refine Qf (t:=33) (p:=47) rfl ?_);refine QH Zu g 2 (Ii 2) (TC x.2) (TC { x.2 with e:=2 }) BKt.out.blk (Xm (a:=3) (n:=64) (c:=13) rfl BKt.out.len rfl (m:=2) (by decide)) rfl rfl ((Xr (a:=3) rfl 2 (by decide) _).trans rfl) rfl _ _ rfl rfl rfl ?_;intro we ho_ hB_;have HLe:=hid (HLt.out.trans (Tw.of_off ho_ b wt.heap.size) HLt.out.size);have BKe:=hid (RB.mk (s:={ x.2 with e:=2 }) BKt.out.len hB_);clear ho_ hB_))
       (first|go_end0|refine bodyPost_ret (results_none rfl _ _ _) rfl ?_)
       have RES:Xw L0 s0={ x.2 with e:=2 }:=by unfold Xw;rw [HR0.out,← HRX.out,if_pos XN.out];exact if_pos ⟨CE.out,CA.out⟩
       rw [RES]
       exact ⟨rfl,BKe.out,HLe.out⟩
      ·
       have caa:decide (x.2.a<(x.2.t.size:Int))=false:=decide_eq_false ca
       have CA:=hid ca
       clear ca
       have k1:=True.intro
       go_wp2_with (first
        |((with_reducible refine Qa (N:=5) rfl ?_);refine Qb (Pg g 2) (Qc 54 2 (Pg g 0) (Pg g 2) (Zt g) _ rfl rfl) rfl ?_)
        |((with_reducible refine Qa (N:=6) rfl ?_);refine Qb (Ii s.e) (Qd Zu g 2 (Ii s.e) (TC s) BK.out.blk ((QC (a:=3) rfl 2 (by decide)).trans rfl) _ rfl rfl) rfl ?_)
        |((with_reducible refine Qa (N:=8) rfl ?_);obtain ⟨gl,hgl⟩:∃ g_,wr.heap.size=g_:=⟨_,rfl⟩;refine XY (e:=9) 2 Vk gl hgl rfl _ rfl (fun w_=>by (try simp only [List.map_toArray,List.map_cons,List.map_nil]);kernel_rfl) ?_;intro w2 hb_ hB_ hs_;have BK2:=hid (BK.out.move (hb_.block g (by have:=BK.out.blk.lt;omega)));have OM2:=hid (OM.out.move (hb_.block b (by have:=OM.out.lt;omega)));have HL2:=hid (HL.out.trans (Tw.of_below (hb_.mono (show wr.heap.size≤gl by omega)) g b) HL.out.size);have BKl:=hid hB_;clear hb_ hB_ hs_ hgl)
        |((with_reducible refine Qa (N:=11) rfl ?_);refine Qb (Pg g 79) (Qc 54 5 (Pg g 0) (Pg g 79) (KV g) _ rfl rfl) rfl ?_)
        |((with_reducible refine Qa (N:=12) rfl ?_);refine Qb (.map (some b)) (Qd KW g 79 (.map (some b)) (TC s) BK2.out.blk ((ZK (a:=3) (n:=64) rfl BK2.out.len 12 79 (by decide)).trans (by show some s.le=_;rw [HLE.out])) _ rfl rfl) rfl ?_)
        |((with_reducible refine Qa (N:=13) rfl ?_);refine Qb (Ii (L.length:Int)) (Vt OM2.out _ rfl rfl) rfl ?_)
        |(go_at_call 37;clear k1;refine (CC.out _ _ BK2.out (SLT.out _ _ BKl.out)).mono ?_;rintro e_ w4 ⟨rfl,hB_,hx_⟩;have OM4:=hid (OM2.out.move (hx_.block b OM2.out.lt KB.out));have HL4:=hid (HL2.out.trans (Tw.of_bex hx_ b) HL2.out.size);have BK4:=hid hB_;clear hB_ hx_))
       (try simp only [Act.put,sI,sZ,sS])
       refine QL (fun z_=>RB z_ g x.2) [] [(0,2),(1,2),(2,2),(3,1),(4,2),(5,2),(6,2),(7,2),(8,2),(9,1),(10,2),(11,2),(12,2),(13,1),(14,2),(15,2),(16,2)] (by kernel_rfl) (by kernel_rfl) (by kernel_rfl) rfl ?_
       intro wt hb_
       have BKt:=hid (BK4.out.move (hb_.block g BK4.out.blk.lt))
       have HLt:=hid (HL4.out.trans (Tw.of_below hb_ g b) HL4.out.size)
       clear hb_
       refine Qe (Pg g 0) rfl (fun z_=>Qo (.tmp 0) (.inl rfl) _ rfl) rfl rfl ?_
       intro t_ k_;simp only [sI,sZ,sS] at k_;subst k_
       refine Qe (Pg g 0) rfl (fun z_=>by go_simp) rfl rfl ?_
       intro t_ k_;simp only [sI,sZ,sS] at k_;subst k_
       refine Qe (Pg g 2) rfl (fun z_=>Qc 54 2 (Pg g 0) (Pg g 2) (Zt g) _ rfl rfl) rfl rfl ?_
       intro t_ k_;simp only [sI,sZ,sS] at k_;subst k_
       refine QA (Ii x.2.e) BKt.out rfl (fun z_ hS_=>Qd Zu g 2 (Ii x.2.e) (TC x.2) hS_.blk ((QC (a:=3) rfl 2 (by decide)).trans rfl) _ rfl rfl) rfl rfl ?_
       intro t_ k_;simp only [sI,sZ,sS] at k_;subst k_
       refine Qe (.bool true) rfl (fun z_=>by go_simp) rfl rfl ?_
       intro t_ k_;simp only [sI,sZ,sS] at k_;subst k_
       refine Qe (.bool true) rfl (fun z_=>by go_simp) rfl rfl ?_
       intro t_ k_;simp only [sI,sZ,sS] at k_;subst k_
       refine Qe (Pg g 0) rfl (fun z_=>Qo (.tmp 0) (.inl rfl) _ rfl) rfl rfl ?_
       intro t_ k_;simp only [sI,sZ,sS] at k_;subst k_
       refine Qe (Pg g 0) rfl (fun z_=>by go_simp) rfl rfl ?_
       intro t_ k_;simp only [sI,sZ,sS] at k_;subst k_
       refine Qe (Pg g 1) rfl (fun z_=>Qc 54 1 (Pg g 0) (Pg g 1) (jI g) _ rfl rfl) rfl rfl ?_
       intro t_ k_;simp only [sI,sZ,sS] at k_;subst k_
       refine QA (Ii x.2.a) BKt.out rfl (fun z_ hS_=>Qd XF g 1 (Ii x.2.a) (TC x.2) hS_.blk ((QC (a:=3) rfl 1 (by decide)).trans rfl) _ rfl rfl) rfl rfl ?_
       intro t_ k_;simp only [sI,sZ,sS] at k_;subst k_
       refine Qe (Pg g 0) rfl (fun z_=>Qo (.tmp 0) (.inl rfl) _ rfl) rfl rfl ?_
       intro t_ k_;simp only [sI,sZ,sS] at k_;subst k_
       refine Qe (Pg g 0) rfl (fun z_=>by go_simp) rfl rfl ?_
       intro t_ k_;simp only [sI,sZ,sS] at k_;subst k_
       refine Qe (Pg g 0) rfl (fun z_=>Qc 54 0 (Pg g 0) (Pg g 0) (zX g) _ rfl rfl) rfl rfl ?_
       intro t_ k_;simp only [sI,sZ,sS] at k_;subst k_
       refine QA (.string x.2.t) BKt.out rfl (fun z_ hS_=>Qd Kx g 0 (.string x.2.t) (TC x.2) hS_.blk ((QC (a:=3) rfl 0 (by decide)).trans rfl) _ rfl rfl) rfl rfl ?_
       intro t_ k_;simp only [sI,sZ,sS] at k_;subst k_
       refine Qe (Ii (x.2.t.size:Int)) rfl (fun z_=>by go_simp) rfl rfl ?_
       intro t_ k_;simp only [sI,sZ,sS] at k_;subst k_
       refine Qe (.bool false) rfl (fun z_=>by go_simp) rfl rfl ?_
       intro t_ k_;simp only [sI,sZ,sS] at k_;subst k_
       refine Qe (.bool false) rfl (fun z_=>by go_simp) rfl rfl ?_
       intro t_ k_;simp only [sI,sZ,sS] at k_;subst k_
       refine JH ?_
       go_wp2_with fail
       (first|go_end0|refine bodyPost_ret (results_none rfl _ _ _) rfl ?_)
       have RES:Xw L0 s0=x.2:=by unfold Xw;rw [HR0.out,← HRX.out,if_pos XN.out];exact if_neg (fun h=>by have h1_:=CA.out;have h2_:=h.2;dsimp only at h2_;omega)
       rw [RES]
       exact ⟨rfl,BKt.out,HLt.out⟩
     ·
      have cea:(x.2.e==0)=false:=beq_eq_false_iff_ne.mpr ce
      have CE:=hid ce
      clear ce
      have k1:=True.intro
      go_wp2_with (first
       |((with_reducible refine Qa (N:=5) rfl ?_);refine Qb (Pg g 2) (Qc 54 2 (Pg g 0) (Pg g 2) (Zt g) _ rfl rfl) rfl ?_)
       |((with_reducible refine Qa (N:=6) rfl ?_);refine Qb (Ii s.e) (Qd Zu g 2 (Ii s.e) (TC s) BK.out.blk ((QC (a:=3) rfl 2 (by decide)).trans rfl) _ rfl rfl) rfl ?_)
       |((with_reducible refine Qa (N:=8) rfl ?_);obtain ⟨gl,hgl⟩:∃ g_,wr.heap.size=g_:=⟨_,rfl⟩;refine XY (e:=9) 2 Vk gl hgl rfl _ rfl (fun w_=>by (try simp only [List.map_toArray,List.map_cons,List.map_nil]);kernel_rfl) ?_;intro w2 hb_ hB_ hs_;have BK2:=hid (BK.out.move (hb_.block g (by have:=BK.out.blk.lt;omega)));have OM2:=hid (OM.out.move (hb_.block b (by have:=OM.out.lt;omega)));have HL2:=hid (HL.out.trans (Tw.of_below (hb_.mono (show wr.heap.size≤gl by omega)) g b) HL.out.size);have BKl:=hid hB_;clear hb_ hB_ hs_ hgl)
       |((with_reducible refine Qa (N:=11) rfl ?_);refine Qb (Pg g 79) (Qc 54 5 (Pg g 0) (Pg g 79) (KV g) _ rfl rfl) rfl ?_)
       |((with_reducible refine Qa (N:=12) rfl ?_);refine Qb (.map (some b)) (Qd KW g 79 (.map (some b)) (TC s) BK2.out.blk ((ZK (a:=3) (n:=64) rfl BK2.out.len 12 79 (by decide)).trans (by show some s.le=_;rw [HLE.out])) _ rfl rfl) rfl ?_)
       |((with_reducible refine Qa (N:=13) rfl ?_);refine Qb (Ii (L.length:Int)) (Vt OM2.out _ rfl rfl) rfl ?_)
       |(go_at_call 37;clear k1;refine (CC.out _ _ BK2.out (SLT.out _ _ BKl.out)).mono ?_;rintro e_ w4 ⟨rfl,hB_,hx_⟩;have OM4:=hid (OM2.out.move (hx_.block b OM2.out.lt KB.out));have HL4:=hid (HL2.out.trans (Tw.of_bex hx_ b) HL2.out.size);have BK4:=hid hB_;clear hB_ hx_))
      (try simp only [Act.put,sI,sZ,sS])
      refine QL (fun z_=>RB z_ g x.2) [] [(0,2),(1,2),(2,2),(3,1),(4,2),(5,2),(6,2),(7,2),(8,2),(9,2),(10,2),(11,2),(12,2),(13,2),(14,2),(15,2),(16,2)] (by kernel_rfl) (by kernel_rfl) (by kernel_rfl) rfl ?_
      intro wt hb_
      have BKt:=hid (BK4.out.move (hb_.block g BK4.out.blk.lt))
      have HLt:=hid (HL4.out.trans (Tw.of_below hb_ g b) HL4.out.size)
      clear hb_
      refine Qe (Pg g 0) rfl (fun z_=>Qo (.tmp 0) (.inl rfl) _ rfl) rfl rfl ?_
      intro t_ k_;simp only [sI,sZ,sS] at k_;subst k_
      refine Qe (Pg g 0) rfl (fun z_=>by go_simp) rfl rfl ?_
      intro t_ k_;simp only [sI,sZ,sS] at k_;subst k_
      refine Qe (Pg g 2) rfl (fun z_=>Qc 54 2 (Pg g 0) (Pg g 2) (Zt g) _ rfl rfl) rfl rfl ?_
      intro t_ k_;simp only [sI,sZ,sS] at k_;subst k_
      refine QA (Ii x.2.e) BKt.out rfl (fun z_ hS_=>Qd Zu g 2 (Ii x.2.e) (TC x.2) hS_.blk ((QC (a:=3) rfl 2 (by decide)).trans rfl) _ rfl rfl) rfl rfl ?_
      intro t_ k_;simp only [sI,sZ,sS] at k_;subst k_
      refine Qe (.bool false) rfl (fun z_=>by go_simp) rfl rfl ?_
      intro t_ k_;simp only [sI,sZ,sS] at k_;subst k_
      refine Qe (.bool false) rfl (fun z_=>by go_simp) rfl rfl ?_
      intro t_ k_;simp only [sI,sZ,sS] at k_;subst k_
      refine JU 5 false rfl rfl rfl rfl ?_
      intro t_ k_;simp only [sI,sZ,sS] at k_;subst k_
      refine JU 5 false rfl rfl rfl rfl ?_
      intro t_ k_;simp only [sI,sZ,sS] at k_;subst k_
      refine JU 5 false rfl rfl rfl rfl ?_
      intro t_ k_;simp only [sI,sZ,sS] at k_;subst k_
      refine JU 5 false rfl rfl rfl rfl ?_
      intro t_ k_;simp only [sI,sZ,sS] at k_;subst k_
      refine JU 5 false rfl rfl rfl rfl ?_
      intro t_ k_;simp only [sI,sZ,sS] at k_;subst k_
      refine JU 5 false rfl rfl rfl rfl ?_
      intro t_ k_;simp only [sI,sZ,sS] at k_;subst k_
      refine JU 5 false rfl rfl rfl rfl ?_
      intro t_ k_;simp only [sI,sZ,sS] at k_;subst k_
      refine JU 5 false rfl rfl rfl rfl ?_
      intro t_ k_;simp only [sI,sZ,sS] at k_;subst k_
      refine JU 5 false rfl rfl rfl rfl ?_
      intro t_ k_;simp only [sI,sZ,sS] at k_;subst k_
      refine JU 5 false rfl rfl rfl rfl ?_
      intro t_ k_;simp only [sI,sZ,sS] at k_;subst k_
      refine Qe (.bool false) rfl (fun z_=>by go_simp) rfl rfl ?_
      intro t_ k_;simp only [sI,sZ,sS] at k_;subst k_
      refine JH ?_
      go_wp2_with fail
      (first|go_end0|refine bodyPost_ret (results_none rfl _ _ _) rfl ?_)
      have RES:Xw L0 s0=x.2:=by unfold Xw;rw [HR0.out,← HRX.out,if_pos XN.out];exact if_neg (fun h=>CE.out h.1)
      rw [RES]
      exact ⟨rfl,BKt.out,HLt.out⟩
    ·
     have cxa:(x.1==0)=false:=beq_eq_false_iff_ne.mpr cx
     have XE:=hid (show x.2.e=0 from by by_cases h:x.2.e=0;exact h;exact absurd (XZ.out h) cx)
     have cea:(x.2.e==0)=true:=beq_iff_eq.mpr XE.out
     have XN:=hid cx
     clear cx
     have OPT:=hid (show ∀ w2:World,RB w2 g x.2→OMap w2 b L→Calls Tryz.prog 51 #[Pg g 0] w2 fun e w'=>e=.returned (.tuple #[])∧RB w' g (QF L x.2).1∧OMap w' b (QF L x.2).2∧Tw g b w2.heap.size w2 w' from fun w2 hB2 hO2=>zW x.2 L hB2 hO2 HOP.out CL.out XOK.out XE.out XLE.out)
     have k2:=True.intro
     have k1:=True.intro
     go_wp2_with (first
      |((with_reducible refine Qa (N:=5) rfl ?_);refine Qb (Pg g 2) (Qc 54 2 (Pg g 0) (Pg g 2) (Zt g) _ rfl rfl) rfl ?_)
      |((with_reducible refine Qa (N:=6) rfl ?_);refine Qb (Ii s.e) (Qd Zu g 2 (Ii s.e) (TC s) BK.out.blk ((QC (a:=3) rfl 2 (by decide)).trans rfl) _ rfl rfl) rfl ?_)
      |((with_reducible refine Qa (N:=8) rfl ?_);obtain ⟨gl,hgl⟩:∃ g_,wr.heap.size=g_:=⟨_,rfl⟩;refine XY (e:=9) 2 Vk gl hgl rfl _ rfl (fun w_=>by (try simp only [List.map_toArray,List.map_cons,List.map_nil]);kernel_rfl) ?_;intro w2 hb_ hB_ hs_;have BK2:=hid (BK.out.move (hb_.block g (by have:=BK.out.blk.lt;omega)));have OM2:=hid (OM.out.move (hb_.block b (by have:=OM.out.lt;omega)));have HL2:=hid (HL.out.trans (Tw.of_below (hb_.mono (show wr.heap.size≤gl by omega)) g b) HL.out.size);have BKl:=hid hB_;clear hb_ hB_ hs_ hgl)
      |((with_reducible refine Qa (N:=11) rfl ?_);refine Qb (Pg g 79) (Qc 54 5 (Pg g 0) (Pg g 79) (KV g) _ rfl rfl) rfl ?_)
      |((with_reducible refine Qa (N:=12) rfl ?_);refine Qb (.map (some b)) (Qd KW g 79 (.map (some b)) (TC s) BK2.out.blk ((ZK (a:=3) (n:=64) rfl BK2.out.len 12 79 (by decide)).trans (by show some s.le=_;rw [HLE.out])) _ rfl rfl) rfl ?_)
      |((with_reducible refine Qa (N:=13) rfl ?_);refine Qb (Ii (L.length:Int)) (Vt OM2.out _ rfl rfl) rfl ?_)
      |(go_at_call 37;clear k1;refine (CC.out _ _ BK2.out (SLT.out _ _ BKl.out)).mono ?_;rintro e_ w4 ⟨rfl,hB_,hx_⟩;have OM4:=hid (OM2.out.move (hx_.block b OM2.out.lt KB.out));have HL4:=hid (HL2.out.trans (Tw.of_bex hx_ b) HL2.out.size);have BK4:=hid hB_;clear hB_ hx_)
      |((with_reducible refine Qa (N:=23) rfl ?_);refine Qb (Pg g 2) (Qc 54 2 (Pg g 0) (Pg g 2) (Zt g) _ rfl rfl) rfl ?_)
      |((with_reducible refine Qa (N:=24) rfl ?_);refine Qb (Ii x.2.e) (Qd Zu g 2 (Ii x.2.e) (TC x.2) BK4.out.blk ((QC (a:=3) rfl 2 (by decide)).trans rfl) _ rfl rfl) rfl ?_)
      |(go_at_call 51;clear k2;refine (OPT.out _ BK4.out OM4.out).mono ?_;rintro e_ w6 ⟨rfl,hB_,hO_,k_⟩;have HL6:=hid (HL4.out.trans k_ HL4.out.size);have BK6:=hid hB_;have OM6:=hid hO_;clear hB_ hO_ k_))
     go_roundg k
     case measure=>omega
     case rel=>exact ⟨_,(QF L x.2).1,(QF L x.2).2,rfl,hid (by have h1_:=HRX.out;rw [if_neg XN.out] at h1_;exact h1_),hid (fun h=>by have h1_:=kh HOP.out CL.out XOK.out XE.out h;have h2_:=HN.out C0.out;omega),BK6,OM6,hid (Kz _ HOP.out),hid (jH HOP.out CL.out XOK.out),hid ((vr _ _).trans XLE.out),HL6⟩
  ·
   have c0a:(s.e==0)=false:=beq_eq_false_iff_ne.mpr c0
   have RES:Xw L0 s0=s:=by unfold Xw;rw [HR0.out,← HR.out,VS c0,if_neg (fun h=>c0 h.1)]
   go_wp2_with (first
    |((with_reducible refine Qa (N:=5) rfl ?_);refine Qb (Pg g 2) (Qc 54 2 (Pg g 0) (Pg g 2) (Zt g) _ rfl rfl) rfl ?_)
    |((with_reducible refine Qa (N:=6) rfl ?_);refine Qb (Ii s.e) (Qd Zu g 2 (Ii s.e) (TC s) BK.out.blk ((QC (a:=3) rfl 2 (by decide)).trans rfl) _ rfl rfl) rfl ?_))
   (try simp only [Act.put,sI,sZ,sS])
   refine QL (fun z_=>RB z_ g s) [] [(0,2),(1,2),(2,2),(3,1),(4,2),(5,2),(6,2),(7,2),(8,2),(9,2),(10,2),(11,2),(12,2),(13,2),(14,2),(15,2),(16,2)] (by kernel_rfl) (by kernel_rfl) (by kernel_rfl) rfl ?_
   intro wt hb_
   have BKt:=hid (BK.out.move (hb_.block g BK.out.blk.lt))
   have HLt:=hid (HL.out.trans (Tw.of_below hb_ g b) HL.out.size)
   clear hb_
   refine Qe (Pg g 0) rfl (fun z_=>Qo (.tmp 0) (.inl rfl) _ rfl) rfl rfl ?_
   intro t_ k_;simp only [sI,sZ,sS] at k_;subst k_
   refine Qe (Pg g 0) rfl (fun z_=>by go_simp) rfl rfl ?_
   intro t_ k_;simp only [sI,sZ,sS] at k_;subst k_
   refine Qe (Pg g 2) rfl (fun z_=>Qc 54 2 (Pg g 0) (Pg g 2) (Zt g) _ rfl rfl) rfl rfl ?_
   intro t_ k_;simp only [sI,sZ,sS] at k_;subst k_
   refine QA (Ii s.e) BKt.out rfl (fun z_ hS_=>Qd Zu g 2 (Ii s.e) (TC s) hS_.blk ((QC (a:=3) rfl 2 (by decide)).trans rfl) _ rfl rfl) rfl rfl ?_
   intro t_ k_;simp only [sI,sZ,sS] at k_;subst k_
   refine Qe (.bool false) rfl (fun z_=>by go_simp) rfl rfl ?_
   intro t_ k_;simp only [sI,sZ,sS] at k_;subst k_
   refine Qe (.bool false) rfl (fun z_=>by go_simp) rfl rfl ?_
   intro t_ k_;simp only [sI,sZ,sS] at k_;subst k_
   refine JU 5 false rfl rfl rfl rfl ?_
   intro t_ k_;simp only [sI,sZ,sS] at k_;subst k_
   refine JU 5 false rfl rfl rfl rfl ?_
   intro t_ k_;simp only [sI,sZ,sS] at k_;subst k_
   refine JU 5 false rfl rfl rfl rfl ?_
   intro t_ k_;simp only [sI,sZ,sS] at k_;subst k_
   refine JU 5 false rfl rfl rfl rfl ?_
   intro t_ k_;simp only [sI,sZ,sS] at k_;subst k_
   refine JU 5 false rfl rfl rfl rfl ?_
   intro t_ k_;simp only [sI,sZ,sS] at k_;subst k_
   refine JU 5 false rfl rfl rfl rfl ?_
   intro t_ k_;simp only [sI,sZ,sS] at k_;subst k_
   refine JU 5 false rfl rfl rfl rfl ?_
   intro t_ k_;simp only [sI,sZ,sS] at k_;subst k_
   refine JU 5 false rfl rfl rfl rfl ?_
   intro t_ k_;simp only [sI,sZ,sS] at k_;subst k_
   refine JU 5 false rfl rfl rfl rfl ?_
   intro t_ k_;simp only [sI,sZ,sS] at k_;subst k_
   refine JU 5 false rfl rfl rfl rfl ?_
   intro t_ k_;simp only [sI,sZ,sS] at k_;subst k_
   refine Qe (.bool false) rfl (fun z_=>by go_simp) rfl rfl ?_
   intro t_ k_;simp only [sI,sZ,sS] at k_;subst k_
   refine JH ?_
   go_wp2_with fail
   (first|go_end0|refine bodyPost_ret (results_none rfl _ _ _) rfl ?_)
   rw [RES]
   exact ⟨rfl,BKt.out,HLt.out⟩
end Go.Proofs.YtaipghemddjecaaGreatDoor
