import Derived.Test.YtaipghemddjecaaGreatDoorTwy
namespace Go.Proofs.YtaipghemddjecaaGreatDoor
set_option maxHeartbeats 40000000
set_option maxRecDepth 100000
open Go.RowKit
open Go.Maps (Keyed)
set_option linter.unusedVariables false
set_option linter.unusedSimpArgs false
def TS.wl(v:Value)(s:TS):TS:={ s with le:=v }
section
variable (v:Value) (s:TS)
theorem KN(u:ByteArray):Qx u (s.wl v)=(Qx u s).wl v:=by unfold Qx TS.wl;dsimp only;split <;> rfl
theorem zY(ws:List ByteArray):QS ws (s.wl v)=((QS ws s).1,(QS ws s).2.wl v):=by unfold QS TS.wl;dsimp only;split <;> rfl
theorem Qdm(l m:Int):Kr l m (s.wl v)=((Kr l m s).1,(Kr l m s).2.wl v):=by unfold Kr TS.wl;dsimp only;split <;> rfl
theorem kj(rd:ByteArray→List Int×Int×Int):ZV rd (s.wl v)=(ZV rd s).wl v:=by unfold ZV TS.wl;dsimp only;(repeat' split) <;> rfl
theorem Qfo:∀ (d fr:Nat) (any:Bool) (s:TS),caF d fr any (s.wl v)=(caF d fr any s).wl v
  |0,_,_,_=>rfl
  |d+1,fr,any,s=>by
    rw [caF,caF]
    rw [show QU (s.wl v).t (s.wl v).a (caW fr any)=QU s.t s.a (caW fr any) from rfl]
    generalize QU s.t s.a (caW fr any)=z
    by_cases h:z.2.2=0
    · rw [if_pos h,if_pos h]
      by_cases h2:z.2.1=4-(fr:Int)
      · rw [if_pos h2,if_pos h2];rfl
      · rw [if_neg h2,if_neg h2]
        exact Qfo d (fr+z.2.1.toNat+1) true { s with a:=z.1,e:=0,ca:=Go.bits .or .i64 s.ca (2^(fr+z.2.1.toNat)) }
    · rw [if_neg h,if_neg h];rfl
theorem Qbk:Jo (s.wl v)=(Jo s).wl v:=by
  unfold Jo
  by_cases h:s.e=0
  · rw [if_pos h,if_pos (show (s.wl v).e=0 from h)];exact Qfo v 5 0 false s
  · rw [if_neg h,if_neg (show ¬ (s.wl v).e=0 from h)]
theorem QgR:sqR (s.wl v)=(sqR s).wl v:=by unfold sqR TS.wl;dsimp only;split <;> rfl
theorem Qeu:JQ (s.wl v)=(JQ s).wl v:=by
  unfold JQ
  rw [KN,zY]
  dsimp only
  rw [kj,kj]
  split <;> rfl
theorem Qdn:XM (s.wl v)=(XM s).wl v:=by unfold XM TS.wl;dsimp only;split <;> rfl
theorem Qev:JP (s.wl v)=(JP s).wl v:=by unfold JP;rw [KN,Qdn,KN]
theorem Qge(i:Nat):Vx i (s.wl v)=(Vx i s).wl v:=by
  unfold Vx
  split
  · rw [KN,Qbk]
  · rw [KN,QgR]
  · unfold maxR;rw [KN,Qdm];rfl
  · unfold Zr;rw [KN,Qdm];rfl
  · rfl
  · unfold ZU;rw [zY];rfl
  · rfl
theorem Qbl(L:List Nat):QF L (s.wl v)=((QF L s).1.wl v,(QF L s).2):=by
  unfold QF
  rw [zY]
  dsimp only
  rw [Qge,KN]
  by_cases h:(QS (L.map Jj) s).2.e=0
  · rw [if_pos h,if_pos (show ((QS (L.map Jj) s).2.wl v).e=0 from h)]
  · rw [if_neg h,if_neg (show ¬ ((QS (L.map Jj) s).2.wl v).e=0 from h)]
theorem kk:∀ (d:Nat) (L:List Nat) (s:TS),Zo d L (s.wl v)=((Zo d L s).1.wl v,(Zo d L s).2)
  |0,_,_=>rfl
  |d+1,L,s=>by
    rw [Zo,Zo]
    by_cases h:s.e=0
    · rw [if_pos h,if_pos (show (s.wl v).e=0 from h),zY]
      dsimp only
      by_cases h2:(QS (JL L) s).1=0
      · rw [if_pos h2,if_pos h2]
      · rw [if_neg h2,if_neg h2,Qbl]
        dsimp only
        exact kk d _ _
    · rw [if_neg h,if_neg (show ¬ (s.wl v).e=0 from h)]
theorem Qew(L:List Nat):Xw L (s.wl v)=(Xw L s).wl v:=by
  unfold Xw
  rw [kk]
  generalize Zo 9 L s=y
  by_cases h:y.1.e=0∧y.1.a<y.1.t.size
  · rw [if_pos h,if_pos (show (y.1.wl v).e=0∧(y.1.wl v).a<(y.1.wl v).t.size from h)];rfl
  · rw [if_neg h,if_neg (show ¬ ((y.1.wl v).e=0∧(y.1.wl v).a<(y.1.wl v).t.size) from h)]
end
def Zc(t:ByteArray):TS:=⟨t,0,0,zL,0,0,-1,0,0,0,false,false,false,0,-1,-1,.map none⟩
def ZZ(t:ByteArray):TS:=Xw Vw (JP (JQ (Zc t)))
def XR(k g n:Int)(h:Bool):Int:=(Zw.f k g n h).getD 0
theorem jJ(k g n:Int)(h:Bool):∃ r,Jk.f k g n h=some r:=by
  unfold Jk.f
  (repeat' split) <;> exact ⟨_,rfl⟩
theorem xQ(k g n:Int)(h:Bool):Zw.f k g n h=some (XR k g n h):=by
  have:∃ r,Zw.f k g n h=some r:=by
    unfold Zw.f
    obtain ⟨r,hr⟩:=jJ k g n h
    rw [hr,Option.bind_some]
    (repeat' split) <;> exact ⟨_,rfl⟩
  obtain ⟨r,hr⟩:=this
  unfold XR
  rw [hr];rfl
abbrev Qfp:=List Int×Int×Int×Int×Int×Int×Int×Bool×Bool×Bool×Int×Int×Int×Int
def Qai(s:TS):Int:=if s.sd<0 then XR s.ki s.go s.n s.hf else s.sd
def jT(s:TS):Qfp:=if s.e=0 then (s.b,Qai s,s.ca,s.ep,s.ki,s.go,s.n,s.hf,s.tr,s.se,s.mx,s.rt,(s.t.size:Int),0) else (zL,0,0,0,0,0,0,false,false,false,0,0,s.a,s.e)
def Jb.f(k:Nat)(a0:ByteArray):Option Qfp:=if a0.size≤1000 then some (jT (ZZ a0)) else none
abbrev KC(s:TS):Array Value:=xv (Value.int .i8) s.b [.int .i64 s.tu,.int .i64 s.ca,.int .i64 s.ep,.int .i64 s.ki,.int .i64 s.go,.int .i64 s.n,.bool s.hf,.bool s.tr,.bool s.se,.int .i64 s.mx,.int .i64 s.rt]
def zK:TS:=⟨⟨#[]⟩,0,0,zL,0,0,0,0,0,0,false,false,false,0,0,0,.map none⟩
theorem Qbm(w:World):(isAgg 30).run Tryz.prog w=.ok true w:=by kernel_rfl
theorem vt(w:World):(sizeOf 30).run Tryz.prog w=.ok 75 w:=by kernel_rfl
theorem vu(w:World):(zeroValue 30).run Tryz.prog w=.ok (.agg (KC zK)) w:=by kernel_rfl
theorem Vh:AggT Tryz.prog 30 75 (KC zK):=⟨Qbm,vt,vu,by first|rfl|decide⟩
theorem Qbn(w:World):(isAgg 28).run Tryz.prog w=.ok true w:=by kernel_rfl
theorem vv(w:World):(sizeOf 28).run Tryz.prog w=.ok 4 w:=by kernel_rfl
theorem vw(w:World):(zeroValue 28).run Tryz.prog w=.ok (.agg #[.int .i64 0,.int .i64 0,.int .i64 0,.bool false]) w:=by kernel_rfl
theorem QcE:AggT Tryz.prog 28 4 #[.int .i64 0,.int .i64 0,.int .i64 0,.bool false]:=⟨Qbn,vv,vw,by first|rfl|decide⟩
theorem qK(g:Nat)(w:World):(Instr.fieldAt 54 (.pointer (some ⟨g,0,none⟩)) 3).run Tryz.prog w=.ok (.pointer (some ⟨g,3,none⟩)) w:=by kernel_rfl
theorem zZ(g:Nat)(w:World):(Instr.fieldAt 54 (.pointer (some ⟨g,0,none⟩)) 4).run Tryz.prog w=.ok (.pointer (some ⟨g,78,none⟩)) w:=by kernel_rfl
theorem vx(g:Nat)(w:World):(Instr.fieldAt 30 (.pointer (some ⟨g,3,none⟩)) 0).run Tryz.prog w=.ok (.pointer (some ⟨g,3,none⟩)) w:=by kernel_rfl
theorem Qgf(g:Nat)(w:World):(Instr.fieldAt 30 (.pointer (some ⟨g,3,none⟩)) 1).run Tryz.prog w=.ok (.pointer (some ⟨g,70,none⟩)) w:=by kernel_rfl
theorem vy(g:Nat)(w:World):(Instr.fieldAt 26 (.pointer (some ⟨g,3,none⟩)) 1).run Tryz.prog w=.ok (.pointer (some ⟨g,67,none⟩)) w:=by kernel_rfl
theorem Km{t:ByteArray}(h:t.size≤1000)(v:Value):((Zc t).wl v).ok:=⟨h,Int.le_refl _,by show (0:Int)≤(t.size:Int);omega⟩
theorem xa(s:TS):(JQ s).le=s.le:=by
  have B:∀ rd s,(ZV rd s).le=s.le:=fun rd s=>by unfold ZV;(repeat' split) <;> rfl
  unfold JQ
  split <;> rw [B,VR,Ks]
theorem jK(s:TS):(JP s).le=s.le:=by
  have B:∀ s,(XM s).le=s.le:=fun s=>by unfold XM;split <;> rfl
  unfold JP
  rw [Ks,B,Ks]
theorem GoodF.t{f:TS→TS}(h:GoodF f){s:TS}(hs:s.ok):(f s).t=s.t:=by
  by_cases he:s.e=0
  · exact (h.bd he hs.a0 hs.a1).1
  · exact (h.off s he).1
theorem Qdo{L:List Nat}{s:TS}(hL:Opts L)(hne:L≠[])(hs:s.ok):(QF L s).1.t=s.t:=by
  have h1:=qJ hs (Zx hL hne)
  have h2:(QS (L.map Jj) s).2.t=s.t:=(VJ (Zx hL hne)).toGoodF.t hs
  unfold QF
  split
  · exact ((Xn (w:=nlB) (by decide)).toGoodF.t ((Vj _).ok h1)).trans (((Vj _).t h1).trans h2)
  · exact h2
theorem jL:∀ (d:Nat) (L:List Nat) (s:TS),Opts L→s.ok→(Zo d L s).1.ok∧(Zo d L s).1.t=s.t
  |0,_,s,_,hs=>⟨hs,rfl⟩
  |d+1,L,s,hL,hs=>by
    unfold Zo
    split
    · rename_i he
      have h1:=qJ hs (JE L)
      have h2:(QS (JL L) s).2.t=s.t:=(VJ (JE L)).toGoodF.t hs
      split
      · exact ⟨h1,h2⟩
      · rename_i hn
        have hne:L≠[]:=fun h=>by subst h;exact hn (zp hs he)
        have K:=jL d _ _ (Kz (QS (JL L) s).2 hL) (jH hL hne h1)
        exact ⟨K.1,K.2.trans ((Qdo hL hne h1).trans h2)⟩
    · exact ⟨hs,rfl⟩
theorem Qex{L:List Nat}{s:TS}(hL:Opts L)(hs:s.ok):(Xw L s).t=s.t:=by
  have K:=jL 9 L s hL hs
  unfold Xw
  split <;> exact K.2
theorem Qey{t:ByteArray}(ht:t.size≤1000):(ZZ t).t=t:=by
  have h0:(Zc t).ok:=Km ht (.map none)
  exact (Qex (List.Sublist.refl _) (Kl.ok (Xo.ok h0))).trans ((Kl.t (Xo.ok h0)).trans (Xo.t h0))
theorem vz(t:ByteArray)(ht:t.size≤1000)(w:World):
    Calls Tryz.prog 7 #[.string t] w fun e w'=>∃ s:TS,(s.b,s.tu,s.ca,s.ep,s.ki,s.go,s.n,s.hf,s.tr,s.se,s.mx,s.rt,s.a,s.e)=jT (ZZ t)∧e=.returned (.tuple #[.agg (KC s),.int .i64 s.a,.int .i64 s.e])∧s.b.length=64∧Below w.heap.size w w':=by
 have HL:=hid (Below.refl w.heap.size w)
 have HT_:=hid ht
 obtain ⟨s,hs⟩:∃ s,ZZ t=s:=⟨_,rfl⟩
 have HSS:=hid hs
 have HEQ:=hid (show ∀ v:Value,Xw Vw (JP (JQ ((Zc t).wl v)))=s.wl v from fun v=>by rw [Qeu,Qev,Qew];rw [← hs];rfl)
 have ST:=hid (show s.t=t from by rw [← hs];exact Qey ht)
 clear hs ht
 by_cases ce:s.e=0
 ·
  have cea:(s.e != 0)=false:=by rw [ce];rfl
  have CE:=hid ce
  clear ce
  by_cases cs:s.sd<0
  ·
   have csa:decide (s.sd<0)=true:=decide_eq_true cs
   have CS:=hid cs
   clear cs
   have k5:=True.intro
   have k1:=True.intro
   have k2:=True.intro
   have k3:=True.intro
   have k4:=True.intro
   go_enter Tryz.func7,Tryz.ntmps7
   go_wp2_with (first
    |((with_reducible refine Qa (N:=2) rfl ?_);obtain ⟨gr,hgr⟩:∃ g_,w.heap.size=g_:=⟨_,rfl⟩;refine Qq Vh gr hgr rfl rfl ?_;intro w1 hb_ hB_ hs_;have GEr:=hid (show w.heap.size≤gr from Nat.le_of_eq hgr);have HL1:=hid (HL.out.trans (hb_.mono GEr.out));have BKr:=hid hB_;have LTr:=hid (show gr<w1.heap.size from hB_.lt);clear hb_ hB_ hs_ hgr)
    |((with_reducible refine Qa (N:=7) rfl ?_);refine Qr (.agg (pv zL 0 0 (-1))) _ rfl rfl ?_ ?_;(intro ww_;(try simp only [List.map_toArray,List.map_cons,List.map_nil]);kernel_rfl))
    |((with_reducible refine Qa (N:=8) rfl ?_);refine Qr (.agg (KC ({ zK with ep:=-1,rt:=-1 }:TS))) _ rfl rfl ?_ ?_;(intro ww_;(try simp only [List.map_toArray,List.map_cons,List.map_nil]);kernel_rfl))
    |(go_at_call 17;clear k1;refine (KU _).mono ?_;rintro e_ w2 ⟨b,rfl,hge_,ho_,hb_⟩;have OM:=hid ho_;have GEb:=hid (show w.heap.size≤b from Nat.le_trans HL1.out.size hge_);have NErb:=hid (show gr≠b from by have:=LTr.out;omega);have HL2:=hid (HL1.out.trans (hb_.mono HL1.out.size));replace BKr:=hid (BKr.out.below hb_ BKr.out.lt);clear hge_ ho_ hb_)
    |((with_reducible refine Qa (N:=10) rfl ?_);refine Qr (.agg (TC ((Zc t).wl (.map (some b))))) _ rfl rfl ?_ ?_;(intro ww_;(try simp only [List.map_toArray,List.map_cons,List.map_nil]);kernel_rfl))
    |((with_reducible refine Qa (N:=11) rfl ?_);obtain ⟨g,hg_⟩:∃ g_,w2.heap.size=g_:=⟨_,rfl⟩;refine Jx (TC ((Zc t).wl (.map (some b)))) g hg_ rfl _ rfl rfl ?_;intro w3 hb_ hB_ hs_;have GE:=hid (show w.heap.size≤g from by have:=HL2.out.size;omega);have NEr:=hid (show gr≠g from by have:=BKr.out.lt;omega);have NEb:=hid (show b≠g from by have:=OM.out.lt;omega);have BK3:=hid (RB.mk (s:=((Zc t).wl (.map (some b)))) (show (zL:List Int).length=64 from rfl) hB_);replace BKr:=hid (BKr.out.below hb_ (by rw [← hg_];exact BKr.out.lt));replace OM:=hid (OM.out.move (hb_.block b (by have:=OM.out.lt;omega)));have HL3:=hid (HL2.out.trans (hb_.mono GE.out));clear hb_ hB_ hs_ hg_)
    |(go_at_call 18;clear k2;refine (qd _ BK3.out (Km HT_.out _)).mono ?_;rintro e_ w4 ⟨rfl,hB_,hx_⟩;replace OM:=hid (OM.out.move (hx_.block b OM.out.lt NEb.out));replace BKr:=hid (BKr.out.bex hx_ BKr.out.lt NEr.out);have HL4:=hid (Jm HL3.out hx_ HL3.out.size GE.out);have BK4:=hid hB_;clear hB_ hx_)
    |(go_at_call 19;clear k3;refine (VN _ BK4.out (Xo.ok (Km HT_.out _))).mono ?_;rintro e_ w5 ⟨rfl,hB_,hx_⟩;replace OM:=hid (OM.out.move (hx_.block b OM.out.lt NEb.out));replace BKr:=hid (BKr.out.bex hx_ BKr.out.lt NEr.out);have HL5:=hid (Jm HL4.out hx_ HL4.out.size GE.out);have BK5:=hid hB_;clear hB_ hx_)
    |(go_at_call 20;clear k4;refine (qe _ Vw BK5.out OM.out (List.Sublist.refl _) (Kl.ok (Xo.ok (Km HT_.out _))) ((jK _).trans (xa _))).mono ?_;rintro e_ w6 ⟨rfl,hB_,k_⟩;rw [HEQ.out] at hB_;replace BKr:=hid (show Blk w6 gr 30 (KC zK) from (k_.block gr BKr.out.lt NEr.out NErb.out).trans BKr.out);have HL6:=hid (HL5.out.trans (k_.below GE.out GEb.out HL5.out.size));have BK6:=hid hB_;clear hB_ k_)
    |((with_reducible refine Qa (N:=20) rfl ?_);refine Qb (.pointer (some ⟨g,2,none⟩)) (Qc 54 2 (.pointer (some ⟨g,0,none⟩)) (.pointer (some ⟨g,2,none⟩)) (Zt g) _ rfl rfl) rfl ?_)
    |((with_reducible refine Qa (N:=21) rfl ?_);refine Qb (.int .i64 s.e) (Qd Zu g 2 (.int .i64 s.e) (TC (s.wl (.map (some b)))) BK6.out.blk ((QC (a:=3) rfl 2 (by decide)).trans rfl) _ rfl rfl) rfl ?_)
    |((with_reducible refine Qa (N:=35) rfl ?_);refine Qb (.pointer (some ⟨g,78,none⟩)) (Qc 54 4 (.pointer (some ⟨g,0,none⟩)) (.pointer (some ⟨g,78,none⟩)) (zZ g) _ rfl rfl) rfl ?_)
    |((with_reducible refine Qa (N:=36) rfl ?_);refine Qb (.int .i64 s.sd) (Qd XF g 78 (.int .i64 s.sd) (TC (s.wl (.map (some b)))) BK6.out.blk ((ZK (a:=3) (n:=64) rfl BK6.out.len 11 78 (by decide)).trans rfl) _ rfl rfl) rfl ?_)
    |((with_reducible refine Qa (N:=38) rfl ?_);refine Qb (.pointer (some ⟨g,3,none⟩)) (Qc 54 3 (.pointer (some ⟨g,0,none⟩)) (.pointer (some ⟨g,3,none⟩)) (qK g) _ rfl rfl) rfl ?_)
    |((with_reducible refine Qa (N:=39) rfl ?_);refine Qb (.pointer (some ⟨g,3,none⟩)) (Qc 30 0 (.pointer (some ⟨g,3,none⟩)) (.pointer (some ⟨g,3,none⟩)) (vx g) _ rfl rfl) rfl ?_)
    |((with_reducible refine Qa (N:=40) rfl ?_);refine Qb (.pointer (some ⟨g,67,none⟩)) (Qc 26 1 (.pointer (some ⟨g,3,none⟩)) (.pointer (some ⟨g,67,none⟩)) (vy g) _ rfl rfl) rfl ?_)
    |((with_reducible refine Qf (t:=3) (p:=40) rfl ?_);refine QH XF g 67 (.int .i64 s.sd) (TC (s.wl (.map (some b)))) (TC ({ s.wl (.map (some b)) with tu:=s.sd }:TS)) BK6.out.blk (Xm (a:=3) (n:=64) (c:=13) rfl BK6.out.len rfl (m:=67) (by decide)) rfl rfl ((Kc (a:=3) (n:=64) rfl BK6.out.len 0 67 (by decide) _).trans rfl) rfl _ _ rfl rfl rfl ?_;intro w7 ho_ hB_;have HL7:=hid (ho_.below HL6.out GE.out);have BK7:=hid (RB.mk (s:=({ s.wl (.map (some b)) with tu:=s.sd }:TS)) BK6.out.len hB_);replace BKr:=hid (BKr.out.off ho_ NEr.out);clear ho_ hB_)
    |((with_reducible refine Qa (N:=43) rfl ?_);refine Qb (.pointer (some ⟨g,78,none⟩)) (Qc 54 4 (.pointer (some ⟨g,0,none⟩)) (.pointer (some ⟨g,78,none⟩)) (zZ g) _ rfl rfl) rfl ?_)
    |((with_reducible refine Qa (N:=44) rfl ?_);refine Qb (.int .i64 s.sd) (Qd XF g 78 (.int .i64 s.sd) (TC ({ s.wl (.map (some b)) with tu:=s.sd }:TS)) BK7.out.blk ((ZK (a:=3) (n:=64) rfl BK7.out.len 11 78 (by decide)).trans rfl) _ rfl rfl) rfl ?_)
    |((with_reducible refine Qa (N:=49) rfl ?_);refine Qb (.pointer (some ⟨g,3,none⟩)) (Qc 54 3 (.pointer (some ⟨g,0,none⟩)) (.pointer (some ⟨g,3,none⟩)) (qK g) _ rfl rfl) rfl ?_)
    |((with_reducible refine Qa (N:=50) rfl ?_);refine Qb (.pointer (some ⟨g,70,none⟩)) (Qc 30 1 (.pointer (some ⟨g,3,none⟩)) (.pointer (some ⟨g,70,none⟩)) (Qgf g) _ rfl rfl) rfl ?_)
    |((with_reducible refine Qa (N:=51) rfl ?_);refine Qb (.agg #[.int .i64 s.ki,.int .i64 s.go,.int .i64 s.n,.bool s.hf]) (QI QcE g 70 (TC ({ s.wl (.map (some b)) with tu:=s.sd }:TS)) #[.int .i64 s.ki,.int .i64 s.go,.int .i64 s.n,.bool s.hf] BK7.out.blk (zh (a:=3) (n:=64) (c:=13) rfl BK7.out.len rfl (m:=74) (by decide)) ((Qgg (a:=3) (n:=64) rfl BK7.out.len 3 70 4 (by decide)).trans rfl) _ rfl rfl) rfl ?_)
    |(go_at_call 13;clear k5;refine (Zw.c s.ki s.go s.n s.hf (XR s.ki s.go s.n s.hf) _ (xQ _ _ _ _)).mono ?_;rintro e_ w8 ⟨rfl,hb_⟩;have BK8:=hid (BK7.out.move (hb_.block g BK7.out.blk.lt));replace BKr:=hid (BKr.out.below hb_ BKr.out.lt);have HL8:=hid (HL7.out.trans (hb_.mono HL7.out.size));clear hb_)
    |((with_reducible refine Qa (N:=54) rfl ?_);refine Qb (.pointer (some ⟨g,3,none⟩)) (Qc 54 3 (.pointer (some ⟨g,0,none⟩)) (.pointer (some ⟨g,3,none⟩)) (qK g) _ rfl rfl) rfl ?_)
    |((with_reducible refine Qa (N:=55) rfl ?_);refine Qb (.pointer (some ⟨g,3,none⟩)) (Qc 30 0 (.pointer (some ⟨g,3,none⟩)) (.pointer (some ⟨g,3,none⟩)) (vx g) _ rfl rfl) rfl ?_)
    |((with_reducible refine Qa (N:=56) rfl ?_);refine Qb (.pointer (some ⟨g,67,none⟩)) (Qc 26 1 (.pointer (some ⟨g,3,none⟩)) (.pointer (some ⟨g,67,none⟩)) (vy g) _ rfl rfl) rfl ?_)
    |((with_reducible refine Qf (t:=3) (p:=56) rfl ?_);refine QH XF g 67 (.int .i64 (XR s.ki s.go s.n s.hf)) (TC ({ s.wl (.map (some b)) with tu:=s.sd }:TS)) (TC ({ s.wl (.map (some b)) with tu:=XR s.ki s.go s.n s.hf }:TS)) BK8.out.blk (Xm (a:=3) (n:=64) (c:=13) rfl BK8.out.len rfl (m:=67) (by decide)) rfl rfl ((Kc (a:=3) (n:=64) rfl BK8.out.len 0 67 (by decide) _).trans rfl) rfl _ _ rfl rfl rfl ?_;intro w9 ho_ hB_;have HL9:=hid (ho_.below HL8.out GE.out);have BK9:=hid (RB.mk (s:=({ s.wl (.map (some b)) with tu:=XR s.ki s.go s.n s.hf }:TS)) BK8.out.len hB_);replace BKr:=hid (BKr.out.off ho_ NEr.out);clear ho_ hB_)
    |((with_reducible refine Qa (N:=59) rfl ?_);refine Qb (.pointer (some ⟨g,3,none⟩)) (Qc 54 3 (.pointer (some ⟨g,0,none⟩)) (.pointer (some ⟨g,3,none⟩)) (qK g) _ rfl rfl) rfl ?_)
    |((with_reducible refine Qa (N:=60) rfl ?_);refine Qb (.agg (KC ({ s.wl (.map (some b)) with tu:=XR s.ki s.go s.n s.hf }:TS))) (QI Vh g 3 (TC ({ s.wl (.map (some b)) with tu:=XR s.ki s.go s.n s.hf }:TS)) (KC ({ s.wl (.map (some b)) with tu:=XR s.ki s.go s.n s.hf }:TS)) BK9.out.blk (zh (a:=3) (n:=64) (c:=13) rfl BK9.out.len rfl (m:=78) (by decide)) ((Qfq (a:=3) (n:=64) (c:=11) (m:=78) rfl BK9.out.len (by simp) (by decide)).trans rfl) _ rfl rfl) rfl ?_)
    |((with_reducible refine Qf (t:=30) (p:=2) rfl ?_);refine Qg Vh gr 0 (KC zK) (KC ({ s.wl (.map (some b)) with tu:=XR s.ki s.go s.n s.hf }:TS)) (KC ({ s.wl (.map (some b)) with tu:=XR s.ki s.go s.n s.hf }:TS)) BKr.out (by rw [show KC ({ s.wl (.map (some b)) with tu:=XR s.ki s.go s.n s.hf }:TS)=xv (Value.int .i8) (({ s.wl (.map (some b)) with tu:=XR s.ki s.go s.n s.hf }:TS)).b _ from rfl,QE,show (({ s.wl (.map (some b)) with tu:=XR s.ki s.go s.n s.hf }:TS)).b.length=64 from BK9.out.len];rfl) (XX (show zK.b.length=64 from rfl) 75 rfl) (XH (fun _=>rfl) (by intro v_ hv_;simp at hv_;rcases hv_ with rfl|rfl|rfl|rfl|rfl|rfl|rfl|rfl|rfl|rfl|rfl <;> rfl)) (XI (show zK.b.length=64 from rfl) (show (({ s.wl (.map (some b)) with tu:=XR s.ki s.go s.n s.hf }:TS)).b.length=64 from BK9.out.len) rfl) rfl _ _ rfl rfl rfl ?_;intro w10 ho_ hB_;have HL10:=hid (ho_.below HL9.out GEr.out);have BKs:=hid hB_;clear ho_ hB_))
   refine bodyPost_ret (v:=.tuple #[.agg (KC ({ s.wl (.map (some b)) with tu:=XR s.ki s.go s.n s.hf }:TS)),.int .i64 (t.size:Int),.int .i64 0]) (Xx Vh rfl _ gr (KC ({ s.wl (.map (some b)) with tu:=XR s.ki s.go s.n s.hf }:TS)) (.int .i64 (t.size:Int)) (.int .i64 0) BKs.out (by rw [show KC ({ s.wl (.map (some b)) with tu:=XR s.ki s.go s.n s.hf }:TS)=xv (Value.int .i8) (({ s.wl (.map (some b)) with tu:=XR s.ki s.go s.n s.hf }:TS)).b _ from rfl,QE,show (({ s.wl (.map (some b)) with tu:=XR s.ki s.go s.n s.hf }:TS)).b.length=64 from BK9.out.len];rfl) rfl rfl rfl) rfl ?_
   exact ⟨{ s with tu:=XR s.ki s.go s.n s.hf,a:=(t.size:Int),e:=0 },by rw [HSS.out];unfold jT Qai;rw [if_pos CE.out,if_pos (by have h1_:=CS.out;omega),ST.out],rfl,BK9.out.len,HL10.out⟩
  ·
   have csa:decide (s.sd<0)=false:=decide_eq_false cs
   have CS:=hid cs
   clear cs
   have k1:=True.intro
   have k2:=True.intro
   have k3:=True.intro
   have k4:=True.intro
   go_enter Tryz.func7,Tryz.ntmps7
   go_wp2_with (first
    |((with_reducible refine Qa (N:=2) rfl ?_);obtain ⟨gr,hgr⟩:∃ g_,w.heap.size=g_:=⟨_,rfl⟩;refine Qq Vh gr hgr rfl rfl ?_;intro w1 hb_ hB_ hs_;have GEr:=hid (show w.heap.size≤gr from Nat.le_of_eq hgr);have HL1:=hid (HL.out.trans (hb_.mono GEr.out));have BKr:=hid hB_;have LTr:=hid (show gr<w1.heap.size from hB_.lt);clear hb_ hB_ hs_ hgr)
    |((with_reducible refine Qa (N:=7) rfl ?_);refine Qr (.agg (pv zL 0 0 (-1))) _ rfl rfl ?_ ?_;(intro ww_;(try simp only [List.map_toArray,List.map_cons,List.map_nil]);kernel_rfl))
    |((with_reducible refine Qa (N:=8) rfl ?_);refine Qr (.agg (KC ({ zK with ep:=-1,rt:=-1 }:TS))) _ rfl rfl ?_ ?_;(intro ww_;(try simp only [List.map_toArray,List.map_cons,List.map_nil]);kernel_rfl))
    |(go_at_call 17;clear k1;refine (KU _).mono ?_;rintro e_ w2 ⟨b,rfl,hge_,ho_,hb_⟩;have OM:=hid ho_;have GEb:=hid (show w.heap.size≤b from Nat.le_trans HL1.out.size hge_);have NErb:=hid (show gr≠b from by have:=LTr.out;omega);have HL2:=hid (HL1.out.trans (hb_.mono HL1.out.size));replace BKr:=hid (BKr.out.below hb_ BKr.out.lt);clear hge_ ho_ hb_)
    |((with_reducible refine Qa (N:=10) rfl ?_);refine Qr (.agg (TC ((Zc t).wl (.map (some b))))) _ rfl rfl ?_ ?_;(intro ww_;(try simp only [List.map_toArray,List.map_cons,List.map_nil]);kernel_rfl))
    |((with_reducible refine Qa (N:=11) rfl ?_);obtain ⟨g,hg_⟩:∃ g_,w2.heap.size=g_:=⟨_,rfl⟩;refine Jx (TC ((Zc t).wl (.map (some b)))) g hg_ rfl _ rfl rfl ?_;intro w3 hb_ hB_ hs_;have GE:=hid (show w.heap.size≤g from by have:=HL2.out.size;omega);have NEr:=hid (show gr≠g from by have:=BKr.out.lt;omega);have NEb:=hid (show b≠g from by have:=OM.out.lt;omega);have BK3:=hid (RB.mk (s:=((Zc t).wl (.map (some b)))) (show (zL:List Int).length=64 from rfl) hB_);replace BKr:=hid (BKr.out.below hb_ (by rw [← hg_];exact BKr.out.lt));replace OM:=hid (OM.out.move (hb_.block b (by have:=OM.out.lt;omega)));have HL3:=hid (HL2.out.trans (hb_.mono GE.out));clear hb_ hB_ hs_ hg_)
    |(go_at_call 18;clear k2;refine (qd _ BK3.out (Km HT_.out _)).mono ?_;rintro e_ w4 ⟨rfl,hB_,hx_⟩;replace OM:=hid (OM.out.move (hx_.block b OM.out.lt NEb.out));replace BKr:=hid (BKr.out.bex hx_ BKr.out.lt NEr.out);have HL4:=hid (Jm HL3.out hx_ HL3.out.size GE.out);have BK4:=hid hB_;clear hB_ hx_)
    |(go_at_call 19;clear k3;refine (VN _ BK4.out (Xo.ok (Km HT_.out _))).mono ?_;rintro e_ w5 ⟨rfl,hB_,hx_⟩;replace OM:=hid (OM.out.move (hx_.block b OM.out.lt NEb.out));replace BKr:=hid (BKr.out.bex hx_ BKr.out.lt NEr.out);have HL5:=hid (Jm HL4.out hx_ HL4.out.size GE.out);have BK5:=hid hB_;clear hB_ hx_)
    |(go_at_call 20;clear k4;refine (qe _ Vw BK5.out OM.out (List.Sublist.refl _) (Kl.ok (Xo.ok (Km HT_.out _))) ((jK _).trans (xa _))).mono ?_;rintro e_ w6 ⟨rfl,hB_,k_⟩;rw [HEQ.out] at hB_;replace BKr:=hid (show Blk w6 gr 30 (KC zK) from (k_.block gr BKr.out.lt NEr.out NErb.out).trans BKr.out);have HL6:=hid (HL5.out.trans (k_.below GE.out GEb.out HL5.out.size));have BK6:=hid hB_;clear hB_ k_)
    |((with_reducible refine Qa (N:=20) rfl ?_);refine Qb (.pointer (some ⟨g,2,none⟩)) (Qc 54 2 (.pointer (some ⟨g,0,none⟩)) (.pointer (some ⟨g,2,none⟩)) (Zt g) _ rfl rfl) rfl ?_)
    |((with_reducible refine Qa (N:=21) rfl ?_);refine Qb (.int .i64 s.e) (Qd Zu g 2 (.int .i64 s.e) (TC (s.wl (.map (some b)))) BK6.out.blk ((QC (a:=3) rfl 2 (by decide)).trans rfl) _ rfl rfl) rfl ?_)
    |((with_reducible refine Qa (N:=35) rfl ?_);refine Qb (.pointer (some ⟨g,78,none⟩)) (Qc 54 4 (.pointer (some ⟨g,0,none⟩)) (.pointer (some ⟨g,78,none⟩)) (zZ g) _ rfl rfl) rfl ?_)
    |((with_reducible refine Qa (N:=36) rfl ?_);refine Qb (.int .i64 s.sd) (Qd XF g 78 (.int .i64 s.sd) (TC (s.wl (.map (some b)))) BK6.out.blk ((ZK (a:=3) (n:=64) rfl BK6.out.len 11 78 (by decide)).trans rfl) _ rfl rfl) rfl ?_)
    |((with_reducible refine Qa (N:=38) rfl ?_);refine Qb (.pointer (some ⟨g,3,none⟩)) (Qc 54 3 (.pointer (some ⟨g,0,none⟩)) (.pointer (some ⟨g,3,none⟩)) (qK g) _ rfl rfl) rfl ?_)
    |((with_reducible refine Qa (N:=39) rfl ?_);refine Qb (.pointer (some ⟨g,3,none⟩)) (Qc 30 0 (.pointer (some ⟨g,3,none⟩)) (.pointer (some ⟨g,3,none⟩)) (vx g) _ rfl rfl) rfl ?_)
    |((with_reducible refine Qa (N:=40) rfl ?_);refine Qb (.pointer (some ⟨g,67,none⟩)) (Qc 26 1 (.pointer (some ⟨g,3,none⟩)) (.pointer (some ⟨g,67,none⟩)) (vy g) _ rfl rfl) rfl ?_)
    |((with_reducible refine Qf (t:=3) (p:=40) rfl ?_);refine QH XF g 67 (.int .i64 s.sd) (TC (s.wl (.map (some b)))) (TC ({ s.wl (.map (some b)) with tu:=s.sd }:TS)) BK6.out.blk (Xm (a:=3) (n:=64) (c:=13) rfl BK6.out.len rfl (m:=67) (by decide)) rfl rfl ((Kc (a:=3) (n:=64) rfl BK6.out.len 0 67 (by decide) _).trans rfl) rfl _ _ rfl rfl rfl ?_;intro w7 ho_ hB_;have HL7:=hid (ho_.below HL6.out GE.out);have BK7:=hid (RB.mk (s:=({ s.wl (.map (some b)) with tu:=s.sd }:TS)) BK6.out.len hB_);replace BKr:=hid (BKr.out.off ho_ NEr.out);clear ho_ hB_)
    |((with_reducible refine Qa (N:=43) rfl ?_);refine Qb (.pointer (some ⟨g,78,none⟩)) (Qc 54 4 (.pointer (some ⟨g,0,none⟩)) (.pointer (some ⟨g,78,none⟩)) (zZ g) _ rfl rfl) rfl ?_)
    |((with_reducible refine Qa (N:=44) rfl ?_);refine Qb (.int .i64 s.sd) (Qd XF g 78 (.int .i64 s.sd) (TC ({ s.wl (.map (some b)) with tu:=s.sd }:TS)) BK7.out.blk ((ZK (a:=3) (n:=64) rfl BK7.out.len 11 78 (by decide)).trans rfl) _ rfl rfl) rfl ?_)
    |((with_reducible refine Qa (N:=59) rfl ?_);refine Qb (.pointer (some ⟨g,3,none⟩)) (Qc 54 3 (.pointer (some ⟨g,0,none⟩)) (.pointer (some ⟨g,3,none⟩)) (qK g) _ rfl rfl) rfl ?_)
    |((with_reducible refine Qa (N:=60) rfl ?_);refine Qb (.agg (KC ({ s.wl (.map (some b)) with tu:=s.sd }:TS))) (QI Vh g 3 (TC ({ s.wl (.map (some b)) with tu:=s.sd }:TS)) (KC ({ s.wl (.map (some b)) with tu:=s.sd }:TS)) BK7.out.blk (zh (a:=3) (n:=64) (c:=13) rfl BK7.out.len rfl (m:=78) (by decide)) ((Qfq (a:=3) (n:=64) (c:=11) (m:=78) rfl BK7.out.len (by simp) (by decide)).trans rfl) _ rfl rfl) rfl ?_)
    |((with_reducible refine Qf (t:=30) (p:=2) rfl ?_);refine Qg Vh gr 0 (KC zK) (KC ({ s.wl (.map (some b)) with tu:=s.sd }:TS)) (KC ({ s.wl (.map (some b)) with tu:=s.sd }:TS)) BKr.out (by rw [show KC ({ s.wl (.map (some b)) with tu:=s.sd }:TS)=xv (Value.int .i8) (({ s.wl (.map (some b)) with tu:=s.sd }:TS)).b _ from rfl,QE,show (({ s.wl (.map (some b)) with tu:=s.sd }:TS)).b.length=64 from BK7.out.len];rfl) (XX (show zK.b.length=64 from rfl) 75 rfl) (XH (fun _=>rfl) (by intro v_ hv_;simp at hv_;rcases hv_ with rfl|rfl|rfl|rfl|rfl|rfl|rfl|rfl|rfl|rfl|rfl <;> rfl)) (XI (show zK.b.length=64 from rfl) (show (({ s.wl (.map (some b)) with tu:=s.sd }:TS)).b.length=64 from BK7.out.len) rfl) rfl _ _ rfl rfl rfl ?_;intro w10 ho_ hB_;have HL10:=hid (ho_.below HL7.out GEr.out);have BKs:=hid hB_;clear ho_ hB_))
   refine bodyPost_ret (v:=.tuple #[.agg (KC ({ s.wl (.map (some b)) with tu:=s.sd }:TS)),.int .i64 (t.size:Int),.int .i64 0]) (Xx Vh rfl _ gr (KC ({ s.wl (.map (some b)) with tu:=s.sd }:TS)) (.int .i64 (t.size:Int)) (.int .i64 0) BKs.out (by rw [show KC ({ s.wl (.map (some b)) with tu:=s.sd }:TS)=xv (Value.int .i8) (({ s.wl (.map (some b)) with tu:=s.sd }:TS)).b _ from rfl,QE,show (({ s.wl (.map (some b)) with tu:=s.sd }:TS)).b.length=64 from BK7.out.len];rfl) rfl rfl rfl) rfl ?_
   exact ⟨{ s with tu:=s.sd,a:=(t.size:Int),e:=0 },by rw [HSS.out];unfold jT Qai;rw [if_pos CE.out,if_neg (by have h1_:=CS.out;omega),ST.out],rfl,BK7.out.len,HL10.out⟩
 ·
  have cea:(s.e != 0)=true:=bne_iff_ne.mpr ce
  have CE:=hid ce
  clear ce
  have k1:=True.intro
  have k2:=True.intro
  have k3:=True.intro
  have k4:=True.intro
  go_enter Tryz.func7,Tryz.ntmps7
  go_wp2_with (first
   |((with_reducible refine Qa (N:=2) rfl ?_);obtain ⟨gr,hgr⟩:∃ g_,w.heap.size=g_:=⟨_,rfl⟩;refine Qq Vh gr hgr rfl rfl ?_;intro w1 hb_ hB_ hs_;have GEr:=hid (show w.heap.size≤gr from Nat.le_of_eq hgr);have HL1:=hid (HL.out.trans (hb_.mono GEr.out));have BKr:=hid hB_;have LTr:=hid (show gr<w1.heap.size from hB_.lt);clear hb_ hB_ hs_ hgr)
   |((with_reducible refine Qa (N:=7) rfl ?_);refine Qr (.agg (pv zL 0 0 (-1))) _ rfl rfl ?_ ?_;(intro ww_;(try simp only [List.map_toArray,List.map_cons,List.map_nil]);kernel_rfl))
   |((with_reducible refine Qa (N:=8) rfl ?_);refine Qr (.agg (KC ({ zK with ep:=-1,rt:=-1 }:TS))) _ rfl rfl ?_ ?_;(intro ww_;(try simp only [List.map_toArray,List.map_cons,List.map_nil]);kernel_rfl))
   |(go_at_call 17;clear k1;refine (KU _).mono ?_;rintro e_ w2 ⟨b,rfl,hge_,ho_,hb_⟩;have OM:=hid ho_;have GEb:=hid (show w.heap.size≤b from Nat.le_trans HL1.out.size hge_);have NErb:=hid (show gr≠b from by have:=LTr.out;omega);have HL2:=hid (HL1.out.trans (hb_.mono HL1.out.size));replace BKr:=hid (BKr.out.below hb_ BKr.out.lt);clear hge_ ho_ hb_)
   |((with_reducible refine Qa (N:=10) rfl ?_);refine Qr (.agg (TC ((Zc t).wl (.map (some b))))) _ rfl rfl ?_ ?_;(intro ww_;(try simp only [List.map_toArray,List.map_cons,List.map_nil]);kernel_rfl))
   |((with_reducible refine Qa (N:=11) rfl ?_);obtain ⟨g,hg_⟩:∃ g_,w2.heap.size=g_:=⟨_,rfl⟩;refine Jx (TC ((Zc t).wl (.map (some b)))) g hg_ rfl _ rfl rfl ?_;intro w3 hb_ hB_ hs_;have GE:=hid (show w.heap.size≤g from by have:=HL2.out.size;omega);have NEr:=hid (show gr≠g from by have:=BKr.out.lt;omega);have NEb:=hid (show b≠g from by have:=OM.out.lt;omega);have BK3:=hid (RB.mk (s:=((Zc t).wl (.map (some b)))) (show (zL:List Int).length=64 from rfl) hB_);replace BKr:=hid (BKr.out.below hb_ (by rw [← hg_];exact BKr.out.lt));replace OM:=hid (OM.out.move (hb_.block b (by have:=OM.out.lt;omega)));have HL3:=hid (HL2.out.trans (hb_.mono GE.out));clear hb_ hB_ hs_ hg_)
   |(go_at_call 18;clear k2;refine (qd _ BK3.out (Km HT_.out _)).mono ?_;rintro e_ w4 ⟨rfl,hB_,hx_⟩;replace OM:=hid (OM.out.move (hx_.block b OM.out.lt NEb.out));replace BKr:=hid (BKr.out.bex hx_ BKr.out.lt NEr.out);have HL4:=hid (Jm HL3.out hx_ HL3.out.size GE.out);have BK4:=hid hB_;clear hB_ hx_)
   |(go_at_call 19;clear k3;refine (VN _ BK4.out (Xo.ok (Km HT_.out _))).mono ?_;rintro e_ w5 ⟨rfl,hB_,hx_⟩;replace OM:=hid (OM.out.move (hx_.block b OM.out.lt NEb.out));replace BKr:=hid (BKr.out.bex hx_ BKr.out.lt NEr.out);have HL5:=hid (Jm HL4.out hx_ HL4.out.size GE.out);have BK5:=hid hB_;clear hB_ hx_)
   |(go_at_call 20;clear k4;refine (qe _ Vw BK5.out OM.out (List.Sublist.refl _) (Kl.ok (Xo.ok (Km HT_.out _))) ((jK _).trans (xa _))).mono ?_;rintro e_ w6 ⟨rfl,hB_,k_⟩;rw [HEQ.out] at hB_;replace BKr:=hid (show Blk w6 gr 30 (KC zK) from (k_.block gr BKr.out.lt NEr.out NErb.out).trans BKr.out);have HL6:=hid (HL5.out.trans (k_.below GE.out GEb.out HL5.out.size));have BK6:=hid hB_;clear hB_ k_)
   |((with_reducible refine Qa (N:=20) rfl ?_);refine Qb (.pointer (some ⟨g,2,none⟩)) (Qc 54 2 (.pointer (some ⟨g,0,none⟩)) (.pointer (some ⟨g,2,none⟩)) (Zt g) _ rfl rfl) rfl ?_)
   |((with_reducible refine Qa (N:=21) rfl ?_);refine Qb (.int .i64 s.e) (Qd Zu g 2 (.int .i64 s.e) (TC (s.wl (.map (some b)))) BK6.out.blk ((QC (a:=3) rfl 2 (by decide)).trans rfl) _ rfl rfl) rfl ?_))
  (try simp only [Act.put,sI,sZ,sS])
  refine QL (fun z_=>RB z_ g (s.wl (.map (some b)))) [] [(0,2),(1,2),(2,2),(3,2),(4,1),(5,2),(6,2),(7,2),(8,1),(9,0),(10,2),(11,2)] (by kernel_rfl) (by kernel_rfl) (by kernel_rfl) rfl ?_
  intro w7 hb_
  have BK7:=hid (BK6.out.move (hb_.block g BK6.out.blk.lt))
  have BKr7:=hid (BKr.out.below hb_ BKr.out.lt)
  have HL7:=hid (HL6.out.trans (hb_.mono HL6.out.size))
  clear hb_
  refine Qe (.agg (KC zK)) rfl (fun z_=>Xs (.agg (KC zK)) _ rfl (by intro ww_;kernel_rfl)) rfl rfl ?_
  intro t_ k_;simp only [sI,sZ,sS] at k_;subst k_
  refine Qe (.pointer (some ⟨g,0,none⟩)) rfl (fun z_=>Qo (.tmp 5) (.inl rfl) _ rfl) rfl rfl ?_
  intro t_ k_;simp only [sI,sZ,sS] at k_;subst k_
  refine Qe (.pointer (some ⟨g,0,none⟩)) rfl (fun z_=>by go_simp) rfl rfl ?_
  intro t_ k_;simp only [sI,sZ,sS] at k_;subst k_
  refine Qe (.pointer (some ⟨g,1,none⟩)) rfl (fun z_=>Qc 54 1 (.pointer (some ⟨g,0,none⟩)) (.pointer (some ⟨g,1,none⟩)) (jI g) _ rfl rfl) rfl rfl ?_
  intro t_ k_;simp only [sI,sZ,sS] at k_;subst k_
  refine QA (.int .i64 s.a) BK7.out rfl (fun z_ hS_=>Qd XF g 1 (.int .i64 s.a) (TC (s.wl (.map (some b)))) hS_.blk ((QC (a:=3) rfl 1 (by decide)).trans rfl) _ rfl rfl) rfl rfl ?_
  intro t_ k_;simp only [sI,sZ,sS] at k_;subst k_
  refine Qe (.pointer (some ⟨g,0,none⟩)) rfl (fun z_=>Qo (.tmp 5) (.inl rfl) _ rfl) rfl rfl ?_
  intro t_ k_;simp only [sI,sZ,sS] at k_;subst k_
  refine Qe (.pointer (some ⟨g,0,none⟩)) rfl (fun z_=>by go_simp) rfl rfl ?_
  intro t_ k_;simp only [sI,sZ,sS] at k_;subst k_
  refine Qe (.pointer (some ⟨g,2,none⟩)) rfl (fun z_=>Qc 54 2 (.pointer (some ⟨g,0,none⟩)) (.pointer (some ⟨g,2,none⟩)) (Zt g) _ rfl rfl) rfl rfl ?_
  intro t_ k_;simp only [sI,sZ,sS] at k_;subst k_
  refine QA (.int .i64 s.e) BK7.out rfl (fun z_ hS_=>Qd Zu g 2 (.int .i64 s.e) (TC (s.wl (.map (some b)))) hS_.blk ((QC (a:=3) rfl 2 (by decide)).trans rfl) _ rfl rfl) rfl rfl ?_
  intro t_ k_;simp only [sI,sZ,sS] at k_;subst k_
  refine QV rfl (fun Q'_ hQ_=>?_)
  refine Qg Vh gr 0 (KC zK) (KC zK) (KC zK) BKr7.out (by rw [show KC zK=xv (Value.int .i8) (zK).b _ from rfl,QE,show (zK).b.length=64 from rfl];rfl) (XX (show zK.b.length=64 from rfl) 75 rfl) (XH (fun _=>rfl) (by intro v_ hv_;simp at hv_;rcases hv_ with rfl|rfl|rfl|rfl|rfl|rfl|rfl|rfl|rfl|rfl|rfl <;> rfl)) (XI (show zK.b.length=64 from rfl) (show zK.b.length=64 from rfl) rfl) rfl _ _ rfl rfl rfl ?_
  intro w8 ho_ hB_
  have HL8:=hid (ho_.below HL7.out GEr.out)
  have BKs:=hid hB_
  have BK8:=hid (BK7.out.move (ho_.block g (fun e=>NEr.out e.symm)))
  clear ho_ hB_
  refine Qz ?_
  refine hQ_ _ _ (fun _=>BK8.out) ?_
  clear hQ_ Q'_
  simp only [Act.put]
  refine Qe (.int .i64 s.a) rfl (fun z_=>Qo (.tmp 27) (.inr rfl) _ rfl) rfl rfl ?_
  intro t_ k_;simp only [sI,sZ,sS] at k_;subst k_
  refine Qe (.int .i64 s.e) rfl (fun z_=>Qo (.tmp 31) (.inr rfl) _ rfl) rfl rfl ?_
  intro t_ k_;simp only [sI,sZ,sS] at k_;subst k_
  refine JH ?_
  go_wp2_with fail
  refine bodyPost_ret (v:=.tuple #[.agg (KC zK),.int .i64 s.a,.int .i64 s.e]) (Xx Vh rfl _ gr (KC zK) (.int .i64 s.a) (.int .i64 s.e) BKs.out (by rw [show KC zK=xv (Value.int .i8) (zK).b _ from rfl,QE,show (zK).b.length=64 from rfl];rfl) rfl rfl rfl) rfl ?_
  exact ⟨{ zK with a:=s.a,e:=s.e },by rw [HSS.out];unfold jT;rw [if_neg CE.out];rfl,rfl,rfl,HL8.out⟩
theorem Jb.c(k:Nat)(a0:ByteArray)(r1:List Int)(r2 r3 r4 r5 r6 r7:Int)(r8 r9 r10:Bool)(r11 r12 r13 r14:Int)(w:World)(h:Jb.f k a0=some (r1,r2,r3,r4,r5,r6,r7,r8,r9,r10,r11,r12,r13,r14)):
    Calls Tryz.prog 7 #[.string a0] w fun e w'=>e=.returned (.tuple #[.agg (xv (Value.int .i8) r1 [.int .i64 r2,.int .i64 r3,.int .i64 r4,.int .i64 r5,.int .i64 r6,.int .i64 r7,.bool r8,.bool r9,.bool r10,.int .i64 r11,.int .i64 r12]),.int .i64 r13,.int .i64 r14])∧r1.length=64∧Below w.heap.size w w':=by
  unfold Jb.f at h
  split at h
  · rename_i ht
    have h2:=Option.some.inj h
    refine (vz a0 ht w).mono ?_
    rintro e w' ⟨s,hs,he,hl,hb⟩
    rw [h2] at hs
    simp only [Prod.mk.injEq] at hs
    obtain ⟨rfl,rfl,rfl,rfl,rfl,rfl,rfl,rfl,rfl,rfl,rfl,rfl,rfl,rfl⟩:=hs
    exact ⟨he,hl,hb⟩
  · cases h
end Go.Proofs.YtaipghemddjecaaGreatDoor
