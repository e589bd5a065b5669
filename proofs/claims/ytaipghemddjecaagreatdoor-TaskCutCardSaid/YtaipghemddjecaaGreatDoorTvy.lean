import Derived.Test.YtaipghemddjecaaGreatDoorTuy
namespace Go.Proofs.YtaipghemddjecaaGreatDoor
set_option maxHeartbeats 40000000
set_option maxRecDepth 100000
open Go.RowKit
open Go.Maps (Keyed)
set_option linter.unusedVariables false
set_option linter.unusedSimpArgs false
section
variable {P:Program} {w:World} {ops:Array Oper} {rest:List Oper} {o:Oper} {a:Act} {Q:Exit→Act→World→Prop} {ev:Operand→Value}
theorem zV(hg:o.guard=none)(it:Operand)(ty:TypeId)(hop:o.op=Op.next it false)(hty:o.type=ty)(p v:Value)(w':World)(hit:a.eval it=p)(hrun:(Instr.next p false ty).run P w=.ok v w')
    (h:wpList P ops Q rest (a.put o.dst v) w'):wpList P ops Q (o::rest) a w:=by
  refine wpList_plain hg fun K' hK'=>?_
  unfold Oper.wp
  simp [execOp,hop,hit,hty,hrun,Result.andThen]
  exact hK' _ _ h
theorem Qdh(hg:o.guard=none)(it:Operand)(hop:o.op=Op.entry it)(p v:Value)(hit:a.eval it=p)(hrun:(Instr.entry p).run P w=.ok v w)
    (h:wpList P ops Q rest (a.put o.dst v) w):wpList P ops Q (o::rest) a w:=by
  refine wpList_plain hg fun K' hK'=>?_
  unfold Oper.wp
  simp [execOp,hop,hit,hrun,Result.andThen]
  exact hK' _ _ h
theorem Qet(t:TypeId)(m x:Operand)(ho:o.op=.lookup t m x false)(mv kv v:Value)(hm:ev m=mv)(hx:ev x=kv)(hr:(Instr.lookup t mv kv false).run P w=.ok v w):(execOp ev o).run P w=.ok (.value v) w:=by
  unfold execOp
  simp [ho,hm,hx,hr,Result.andThen]
end
theorem Zt(g:Nat)(w:World):(Instr.fieldAt 54 (.pointer (some ⟨g,0,none⟩)) 2).run Tryz.prog w=.ok (.pointer (some ⟨g,2,none⟩)) w:=by kernel_rfl
theorem KV(g:Nat)(w:World):(Instr.fieldAt 54 (.pointer (some ⟨g,0,none⟩)) 5).run Tryz.prog w=.ok (.pointer (some ⟨g,79,none⟩)) w:=by kernel_rfl
theorem KW:ScT Tryz.prog 51:=⟨fun w=>by kernel_rfl,fun w=>by kernel_rfl⟩
theorem Zu:ScT Tryz.prog 33:=⟨fun w=>by kernel_rfl,fun w=>by kernel_rfl⟩
theorem Kx:ScT Tryz.prog 9:=⟨fun w=>by kernel_rfl,fun w=>by kernel_rfl⟩
theorem jG:Tryz.prog.underlying 60=some (.slice 9):=by kernel_rfl
theorem vp:(Tryz.prog.info? 9).map (fun i=>(i.zero,i.size,i.bytes))=some (some (.string ⟨#[]⟩),1,16):=by kernel_rfl
theorem QgQ:ElemT Tryz.prog 60 9 16:=⟨by kernel_rfl,by
  obtain ⟨i,h1,h2,h3,h4⟩:=info_parts vp
  exact ⟨i,_,h1,h2,h3,h4,rfl⟩⟩
theorem Qgd:∀ i:Nat,∃ fn,Tryz.prog.funcs[zT i]?=some fn∧(fn.name=="runtime.NumGoroutine")=false∧fn.body.isNone=false
  |0=>⟨_,Tryz.func41,by kernel_rfl,by kernel_rfl⟩
  |1=>⟨_,Tryz.func43,by kernel_rfl,by kernel_rfl⟩
  |2=>⟨_,Tryz.func38,by kernel_rfl,by kernel_rfl⟩
  |3=>⟨_,Tryz.func46,by kernel_rfl,by kernel_rfl⟩
  |4=>⟨_,Tryz.func35,by kernel_rfl,by kernel_rfl⟩
  |5=>⟨_,Tryz.func36,by kernel_rfl,by kernel_rfl⟩
  |n+6=>⟨_,Tryz.func34,by kernel_rfl,by kernel_rfl⟩
theorem RB.move{w w':World}{g:Nat}{s:TS}(h:RB w g s)(hb:w'.heap[g]?=w.heap[g]?):RB w' g s:=⟨h.len,hb.trans h.blk⟩
theorem zo(L:List Nat):(L.map Kf).map encStr=(L.map Jj).map Value.string:=by
  simp only [List.map_map]
  refine List.map_congr_left fun i _=>?_
  simp [Kf,encStr]
theorem kf{L:List Nat}{n:Nat}(h:n<L.length):nt (L.map Jj) n ByteArray.empty=Jj (L.getD n 0):=by
  unfold nt
  rw [List.getD_eq_getElem?_getD,List.getD_eq_getElem?_getD,List.getElem?_map,List.getElem?_eq_getElem h];rfl
theorem Qdi{L:List Nat}{n:Nat}(h:n<L.length):L.getD n 0∈L:=by
  rw [List.getD_eq_getElem?_getD,List.getElem?_eq_getElem h];exact List.getElem_mem h
theorem zW(s:TS)(L:List Nat){g b:Nat}{w:World}(hB:RB w g s)(hO:OMap w b L)(hL:Opts L)(hne:L≠[])(hs:s.ok)(he:s.e=0)(hle:s.le=.map (some b)):
    Calls Tryz.prog 51 #[.pointer (some ⟨g,0,none⟩)] w fun e w'=>e=.returned (.tuple #[])∧RB w' g (QF L s).1∧OMap w' b (QF L s).2∧Tw g b w.heap.size w w':=by
 have BK:=hid hB
 have OM:=hid hO
 have HL:=hid (Tw.refl g b w.heap.size w)
 have HS:=hid hs
 have HE:=hid he
 have HLE:=hid hle
 have HOP:=hid hL
 have KB:=hid (OMap.ne hO hB.blk)
 have GLT:=hid hB.blk.lt
 have BLT:=hid hO.lt
 have hpos:0<L.length:=List.length_pos_iff.2 hne
 have POS:=hid hpos
 have NE:=hid hne
 obtain ⟨x,hx⟩:∃ x,QS (L.map Jj) s=x:=⟨_,rfl⟩
 have HX:=hid hx
 have XOK:=hid (show x.2.ok from by rw [← hx];exact qJ hs (Zx hL hne))
 have XLE:=hid (show x.2.le=.map (some b) from by rw [← hx,VR];exact hle)
 have XN:=hid (show x.2.e=0→0≤x.1∧x.1<(L.length:Int) from fun h0=>by
   have b1:=XB (t:=s.t) hs.a0 hs.a1 (Zx hL hne)
   rw [← hx] at h0 ⊢
   unfold QS at h0 ⊢
   rw [if_pos he] at h0 ⊢
   have:=b1.2.2.2.1 h0
   rw [List.length_map] at this
   exact this.2)
 have CC:=hid (show ∀ (w2:World) (v:Value),RB w2 g s→SlT w2 9 v ((L.map Jj).map Value.string)→Calls Tryz.prog 37 #[.pointer (some ⟨g,0,none⟩),v] w2 fun e w'=>e=.returned (.int .i64 x.1)∧RB w' g x.2∧Bex g w2.heap.size w2 w' from fun w2 v hB2 hv=>by
   rw [← hx]
   exact qU s (L.map Jj) v hB2 hs hv (by rw [List.length_map];have:=hL.len;omega) vi)
 clear hB hO hs he hle hL hpos hne hx
 have LEN:=hid (show (L.length:Int)≠0 from by have:=POS.out;omega)
 go_enter Tryz.func51,Tryz.ntmps51
 go_wp2_with (first
  |((with_reducible refine Qa (N:=7) rfl ?_);refine Qb (.pointer (some ⟨g,79,none⟩)) (Qc 54 5 (.pointer (some ⟨g,0,none⟩)) (.pointer (some ⟨g,79,none⟩)) (KV g) _ rfl rfl) rfl ?_)
  |((with_reducible refine Qa (N:=8) rfl ?_);refine Qb (.map (some b)) (Qd KW g 79 (.map (some b)) (TC s) BK.out.blk ((ZK (a:=3) (n:=64) rfl BK.out.len 12 79 (by decide)).trans (by show some s.le=_;rw [HLE.out])) _ rfl rfl) rfl ?_)
  |((with_reducible refine Qa (N:=9) rfl ?_);refine wpList_range_own (H:=Unit) _ rfl _ 51 rfl 9 69 (Maps.string_keyed tk9) QcP Kv b 7 (VL L) rfl OM.out ?_;intro w1 hr_ hg_ hs_;have RG:=hid hr_;have BK1:=hid (BK.out.move (hg_.block g GLT.out (by simp)));have HL1:=hid (HL.out.trans (Tw.of_grown (B:=w.heap.size) hg_ (Nat.le_refl _) (fun k h=>by cases h)) (Nat.le_refl _));have SZ:=hid (show w.heap.size+1≤w1.heap.size from Nat.le_of_eq hs_.symm);clear hr_ hg_ hs_))
 (try simp only [Act.put,sI,sZ,sS])
 go_loopg [2] (Maps.size (VL L)) (fun kq v2 w'=>∃ (u2:Value) (ss:List (List UInt8)) (left:Lit→Bool),u2=v2∧Hid (Own w' (w.heap.size+1) 9 u2 (ss.map encStr))∧Hid (w'.ranges Tryz.prog 9 Kv b w.heap.size 7 (VL L) left kq)∧Hid (Collected (VL L) left ss)∧Hid (ss.length+kq≤7)∧Hid (RB w' g s)∧Hid (Tw g b w.heap.size w w')∧Hid (w.heap.size+1≤w'.heap.size))
 case atStart=>exact ⟨.slice none 0 0,[],Maps.has (VL L),rfl,hid (Own.nil _ _ _),RG,hid (Collected.start _),hid (by rw [ka];have:=HOP.out.len;simpa using this),BK1,HL1,SZ⟩
 case round=>
  clear RG BK1 HL1 SZ
  obtain ⟨u2,ss,left,rfl,SW,RG,CO,LE,BK1,HL1,SZ⟩:=hrel
  rcases RG.out.next (Maps.string_keyed tk9) 0 with ⟨h0_,hl_,hrun_⟩|⟨key_,v_,kl_,y_,w2,cnt2,hkey_,hlk_,hv_,hat_,hrun_,hrg_,hlt_,hgr_,hsz_,hen_⟩
  ·
   have RUN:=hid hrun_
   have perm:=CO.out.perm RG.out.owns (Maps.string_keyed tk9) tk9 hl_
   rw [QcO] at perm
   have SRT:=hid (show ss.mergeSort leB=L.map Kf from by rw [mergeSort_of_perm perm];exact List.mergeSort_of_pairwise (vk HOP.out))
   have SNE:=hid (show ss≠[] from fun h=>by rw [h] at perm;have:=perm.length_eq;have:=POS.out;simp at *;omega)
   have SLE:=hid (show ss.length≤7 from by have:=LE.out;omega)
   have OMr:=hid (show OMap wr b L from RG.out.owns)
   clear hrun_ perm h0_ hl_
   by_cases c0:x.2.e=0
   ·
    have c0a:(x.2.e != 0)=false:=by rw [c0];rfl
    have c0b:(((L.length:Int))==0)=false:=beq_eq_false_iff_ne.mpr LEN.out
    have C0:=hid c0
    clear c0
    have k1:=True.intro
    have k2:=True.intro
    go_wp2_with (first
     |((with_reducible refine Qa (N:=10) rfl ?_);refine zV rfl _ 0 rfl rfl (.pointer (some ⟨w.heap.size,0,none⟩)) _ _ rfl RUN.out ?_)
     |(go_at_call 76;clear k1;refine (kb SW.out SNE.out SLE.out).mono ?_;rintro e_ w3 ⟨rfl,ho_,hb_⟩;rw [SRT.out,zo] at ho_;have SW3:=hid ho_;have BK3:=hid (BK1.out.move (hb_.block g (by have:=GLT.out;omega)));have OM3:=hid (OMr.out.move (hb_.block b (by have:=BLT.out;omega)));have HL3:=hid (HL1.out.trans (Tw.of_below (hb_.mono (show w.heap.size≤w.heap.size+1 by omega)) g b) (Nat.le_refl _));have SZ3:=hid (Nat.le_trans SZ.out hb_.size);clear ho_ hb_)
     |((with_reducible refine Qa (N:=21) rfl ?_);obtain ⟨A_,c_,hv_⟩:=SW3.out.shape;rw [List.length_map,List.length_map] at hv_;refine Qb (.int .i64 (L.length:Int)) (qA jG _ _ _ _ hv_ _ rfl rfl) rfl ?_;clear hv_)
     |(go_at_call 37;clear k2;refine (CC.out _ _ BK3.out SW3.out.slT).mono ?_;rintro e_ w4 ⟨rfl,hB_,hx_⟩;have SW4:=hid (SW3.out.bex hx_ (Nat.le_refl _) BK3.out.blk (by decide));have OM4:=hid (OM3.out.move (hx_.block b OM3.out.lt KB.out));have HL4:=hid (HL3.out.trans (Tw.of_bex hx_ b) HL3.out.size);have SZ4:=hid (Nat.le_trans SZ3.out hx_.size);have BK4:=hid hB_;clear hB_ hx_)
     |((with_reducible refine Qa (N:=31) rfl ?_);refine Qb (.pointer (some ⟨g,2,none⟩)) (Qc 54 2 (.pointer (some ⟨g,0,none⟩)) (.pointer (some ⟨g,2,none⟩)) (Zt g) _ rfl rfl) rfl ?_)
     |((with_reducible refine Qa (N:=32) rfl ?_);refine Qb (.int .i64 x.2.e) (Qd Zu g 2 (.int .i64 x.2.e) (TC x.2) BK4.out.blk ((QC (a:=3) rfl 2 (by decide)).trans rfl) _ rfl rfl) rfl ?_))
    (try simp only [Act.put,sI,sZ,sS])
    clear c0a c0b BK1 BK3 SW SW3 OMr OM3 HL1 HL3 SZ SZ3 RG RUN CO LE
    obtain ⟨xn0,xn1⟩:=XN.out C0.out
    have XN0:=hid xn0
    have XN1:=hid (show x.1<((L.map Jj).length:Int) from by rw [List.length_map];exact xn1)
    have XNL:=hid (show x.1.toNat<L.length from by omega)
    clear xn0 xn1
    obtain ⟨ad,cp,hv_,_⟩:=Sl.get (l:=L.map Jj) (f:=Value.string) SW4.out.sl ByteArray.empty XN0.out XN1.out
    have HV:=hid hv_
    clear hv_
    obtain ⟨fn_,hf1_,hf2_,hf3_⟩:=Qgd (L.getD x.1.toNat 0)
    have HF1:=hid hf1_
    have HF2:=hid hf2_
    have HF3:=hid hf3_
    clear hf1_ hf2_ hf3_
    refine QL (fun z_=>RB z_ g x.2∧OMap z_ b L∧Own z_ (w.heap.size+1) 9 u2 ((L.map Jj).map Value.string)) [10] [(0,2),(1,2),(2,2),(3,1),(4,2),(5,2),(6,2),(7,1),(8,1),(9,2),(10,0)] (by kernel_rfl) (by kernel_rfl) (by kernel_rfl) rfl ?_
    intro w5 hb_
    have BK5:=hid (BK4.out.move (hb_.block g BK4.out.blk.lt))
    have OM5:=hid (OM4.out.move (hb_.block b OM4.out.lt))
    have SW5:=hid (SW4.out.below hb_)
    have HL5:=hid (HL4.out.trans (Tw.of_below hb_ g b) HL4.out.size)
    have SZ5:=hid (Nat.le_trans SZ4.out hb_.size)
    clear hb_ BK4 OM4 SW4 HL4 SZ4
    refine Qe (.pointer (some ⟨g,0,none⟩)) rfl (fun z_=>Qo (.tmp 0) (.inl rfl) _ rfl) rfl rfl ?_
    intro t_ k_;simp only [sI,sZ,sS] at k_;subst k_
    refine Qe (.pointer (some ⟨g,0,none⟩)) rfl (fun z_=>by go_simp) rfl rfl ?_
    intro t_ k_;simp only [sI,sZ,sS] at k_;subst k_
    refine Qe (.pointer (some ⟨g,79,none⟩)) rfl (fun z_=>Qc 54 5 (.pointer (some ⟨g,0,none⟩)) (.pointer (some ⟨g,79,none⟩)) (KV g) _ rfl rfl) rfl rfl ?_
    intro t_ k_;simp only [sI,sZ,sS] at k_;subst k_
    refine QA (.map (some b)) ⟨BK5.out,OM5.out,SW5.out⟩ rfl (fun z_ hS_=>Qd KW g 79 (.map (some b)) (TC x.2) hS_.1.blk ((ZK (a:=3) (n:=64) rfl hS_.1.len 12 79 (by decide)).trans (by show some (x.2).le=_;rw [XLE.out])) _ rfl rfl) rfl rfl ?_
    intro t_ k_;simp only [sI,sZ,sS] at k_;subst k_
    refine Qe (u2) rfl (fun z_=>Qo (.tmp 2) (.inl rfl) _ rfl) rfl rfl ?_
    intro t_ k_;simp only [sI,sZ,sS] at k_;subst k_
    refine Qe (.int .i64 x.1) rfl (fun z_=>Qo (.tmp 4) (.inl rfl) _ rfl) rfl rfl ?_
    intro t_ k_;simp only [sI,sZ,sS] at k_;subst k_
    refine Qe (.pointer (some (ad.add x.1.toNat))) rfl (fun z_=>XO _ _ x.1 _ _ HV.out XN0.out XN1.out jG Kx _ _ rfl rfl rfl) rfl rfl ?_
    intro t_ k_;simp only [sI,sZ,sS] at k_;subst k_
    refine QA (.string (Jj (L.getD x.1.toNat 0))) ⟨BK5.out,OM5.out,SW5.out⟩ rfl (fun z_ hS_=>ZB Kx _ _ ((Sl.at_ (l:=L.map Jj) (f:=Value.string) hS_.2.2.sl ByteArray.empty HV.out (i:=x.1) XN0.out XN1.out).trans (by rw [kf XNL.out])) _ rfl rfl) rfl rfl ?_
    intro t_ k_;simp only [sI,sZ,sS] at k_;subst k_
    refine QA (.func (.func (zT (L.getD x.1.toNat 0))) #[] #[]) ⟨BK5.out,OM5.out,SW5.out⟩ rfl (fun z_ hS_=>Qet 51 _ _ rfl (.map (some b)) (.string (Jj (L.getD x.1.toNat 0))) _ rfl rfl (Qek hS_.2.1 HOP.out (Qdi XNL.out))) rfl rfl ?_
    intro t_ k_;simp only [sI,sZ,sS] at k_;subst k_
    refine Qe (.pointer (some ⟨g,0,none⟩)) rfl (fun z_=>Qo (.tmp 0) (.inl rfl) _ rfl) rfl rfl ?_
    intro t_ k_;simp only [sI,sZ,sS] at k_;subst k_
    refine QV rfl (fun Q'_ hQ_=>?_)
    refine Jr (zT (L.getD x.1.toNat 0)) #[.pointer (some ⟨g,0,none⟩)] (Xe HF1.out HF2.out HF3.out _ rfl _ _ _ rfl rfl (by simp only [List.map_toArray,List.map_cons,List.map_nil];rfl)) rfl ((Qbi (L.getD x.1.toNat 0) x.2 BK5.out XOK.out).mono ?_)
    rintro e_ w6 ⟨rfl,hB_,hx_⟩
    have SW6:=hid (SW5.out.bex hx_ (Nat.le_refl _) BK5.out.blk (by decide))
    have OM6:=hid (OM5.out.move (hx_.block b OM5.out.lt KB.out))
    have HL6:=hid (HL5.out.trans (Tw.of_bex hx_ b) HL5.out.size)
    have BK6:=hid hB_
    clear hB_ hx_
    refine ⟨_,rfl,?_⟩
    refine hQ_ _ _ (fun h_=>absurd h_ (by decide)) ?_
    clear hQ_ Q'_
    change Sq _ _ _ _ _ _ (Act.put _ (some 44) _) _
    simp only [Act.put,sI,sZ,sS]
    clear BK5 SW5 HL5 SZ5 OM5 HF1 HF2 HF3
    refine JH ?_
    go_wp2_with fail
    (try simp only [Act.put,sI,sZ,sS])
    refine QL (fun z_=>RB z_ g (Vx (L.getD x.1.toNat 0) x.2)∧OMap z_ b L∧Own z_ (w.heap.size+1) 9 u2 ((L.map Jj).map Value.string)) [8] [(0,2),(1,2),(2,2),(3,1),(4,2),(5,2),(6,2),(7,1),(8,0)] (by kernel_rfl) (by kernel_rfl) (by kernel_rfl) rfl ?_
    intro w7 hb_
    have BK7:=hid (BK6.out.move (hb_.block g BK6.out.blk.lt))
    have OM7:=hid (OM6.out.move (hb_.block b OM6.out.lt))
    have SW7:=hid (SW6.out.below hb_)
    have HL7:=hid (HL6.out.trans (Tw.of_below hb_ g b) HL6.out.size)
    clear hb_ BK6 OM6 SW6 HL6
    refine Qe (.pointer (some ⟨g,0,none⟩)) rfl (fun z_=>Qo (.tmp 0) (.inl rfl) _ rfl) rfl rfl ?_
    intro t_ k_;simp only [sI,sZ,sS] at k_;subst k_
    refine Qe (.pointer (some ⟨g,0,none⟩)) rfl (fun z_=>by go_simp) rfl rfl ?_
    intro t_ k_;simp only [sI,sZ,sS] at k_;subst k_
    refine Qe (.pointer (some ⟨g,79,none⟩)) rfl (fun z_=>Qc 54 5 (.pointer (some ⟨g,0,none⟩)) (.pointer (some ⟨g,79,none⟩)) (KV g) _ rfl rfl) rfl rfl ?_
    intro t_ k_;simp only [sI,sZ,sS] at k_;subst k_
    refine QA (.map (some b)) ⟨BK7.out,OM7.out,SW7.out⟩ rfl (fun z_ hS_=>Qd KW g 79 (.map (some b)) (TC (Vx (L.getD x.1.toNat 0) x.2)) hS_.1.blk ((ZK (a:=3) (n:=64) rfl hS_.1.len 12 79 (by decide)).trans (by show some ((Vx (L.getD x.1.toNat 0) x.2)).le=_;rw [Qah,XLE.out])) _ rfl rfl) rfl rfl ?_
    intro t_ k_;simp only [sI,sZ,sS] at k_;subst k_
    refine Qe (u2) rfl (fun z_=>Qo (.tmp 2) (.inl rfl) _ rfl) rfl rfl ?_
    intro t_ k_;simp only [sI,sZ,sS] at k_;subst k_
    refine Qe (.int .i64 x.1) rfl (fun z_=>Qo (.tmp 4) (.inl rfl) _ rfl) rfl rfl ?_
    intro t_ k_;simp only [sI,sZ,sS] at k_;subst k_
    refine Qe (.pointer (some (ad.add x.1.toNat))) rfl (fun z_=>XO _ _ x.1 _ _ HV.out XN0.out XN1.out jG Kx _ _ rfl rfl rfl) rfl rfl ?_
    intro t_ k_;simp only [sI,sZ,sS] at k_;subst k_
    refine QA (.string (Jj (L.getD x.1.toNat 0))) ⟨BK7.out,OM7.out,SW7.out⟩ rfl (fun z_ hS_=>ZB Kx _ _ ((Sl.at_ (l:=L.map Jj) (f:=Value.string) hS_.2.2.sl ByteArray.empty HV.out (i:=x.1) XN0.out XN1.out).trans (by rw [kf XNL.out])) _ rfl rfl) rfl rfl ?_
    intro t_ k_;simp only [sI,sZ,sS] at k_;subst k_
    refine QV rfl (fun Q'_ hQ_=>?_)
    refine wpList_delete_own _ rfl _ _ 51 9 rfl 69 (Maps.string_keyed tk9) QcP Kv b 7 (VL L) rfl OM7.out (.string (Jj (L.getD x.1.toNat 0))) (.string (Kf (L.getD x.1.toNat 0))) rfl (QgM _) ?_
    intro w8 ho_ k_
    rw [Qej HOP.out XNL.out] at ho_
    have OM8:=hid (show OMap w8 b (L.eraseIdx x.1.toNat) from ho_)
    have BK8:=hid (BK7.out.move (k_.grown.block g BK7.out.blk.lt (fun e=>by injection e with e;exact KB.out e.symm)))
    have HL8:=hid (HL7.out.trans (Tw.of_grown (g:=g) (b:=b) (B:=w7.heap.size) k_.grown (Nat.le_refl _) (fun k h=>by injection h with h;exact .inl h.symm)) HL7.out.size)
    clear ho_ k_ BK7 OM7 SW7 HL7
    refine Qz ?_
    refine hQ_ _ _ (fun h_=>absurd h_ (by decide)) ?_
    clear hQ_ Q'_
    simp only [Act.put]
    refine JH ?_
    have YOK:=hid (show (Vx (L.getD x.1.toNat 0) x.2).ok from (Vj _).ok XOK.out)
    have k3:=True.intro
    go_wp2_with (first
     |(go_at_call 39;clear k3;refine (vn _ nlB BK8.out YOK.out (by decide)).mono ?_;rintro e_ w9 ⟨rfl,hB_,hx_⟩;have OM9:=hid (OM8.out.move (hx_.block b OM8.out.lt KB.out));have HL9:=hid (HL8.out.trans (Tw.of_bex hx_ b) HL8.out.size);have BK9:=hid hB_;clear hB_ hx_))
    (first|go_end0|refine bodyPost_ret (results_none rfl _ _ _) rfl ?_)
    have RES:QF L s=(Qx nlB (Vx (L.getD x.1.toNat 0) x.2),L.eraseIdx x.1.toNat):=by unfold QF;rw [HX.out,if_pos C0.out]
    rw [RES]
    exact ⟨rfl,BK9.out,OM9.out,HL9.out⟩
   ·
    have c0a:(x.2.e != 0)=true:=bne_iff_ne.mpr c0
    have c0b:(((L.length:Int))==0)=false:=beq_eq_false_iff_ne.mpr LEN.out
    have C0:=hid c0
    clear c0
    have k1:=True.intro
    have k2:=True.intro
    go_wp2_with (first
     |((with_reducible refine Qa (N:=10) rfl ?_);refine zV rfl _ 0 rfl rfl (.pointer (some ⟨w.heap.size,0,none⟩)) _ _ rfl RUN.out ?_)
     |(go_at_call 76;clear k1;refine (kb SW.out SNE.out SLE.out).mono ?_;rintro e_ w3 ⟨rfl,ho_,hb_⟩;rw [SRT.out,zo] at ho_;have SW3:=hid ho_;have BK3:=hid (BK1.out.move (hb_.block g (by have:=GLT.out;omega)));have OM3:=hid (OMr.out.move (hb_.block b (by have:=BLT.out;omega)));have HL3:=hid (HL1.out.trans (Tw.of_below (hb_.mono (show w.heap.size≤w.heap.size+1 by omega)) g b) (Nat.le_refl _));have SZ3:=hid (Nat.le_trans SZ.out hb_.size);clear ho_ hb_)
     |((with_reducible refine Qa (N:=21) rfl ?_);obtain ⟨A_,c_,hv_⟩:=SW3.out.shape;rw [List.length_map,List.length_map] at hv_;refine Qb (.int .i64 (L.length:Int)) (qA jG _ _ _ _ hv_ _ rfl rfl) rfl ?_;clear hv_)
     |(go_at_call 37;clear k2;refine (CC.out _ _ BK3.out SW3.out.slT).mono ?_;rintro e_ w4 ⟨rfl,hB_,hx_⟩;have OM4:=hid (OM3.out.move (hx_.block b OM3.out.lt KB.out));have HL4:=hid (HL3.out.trans (Tw.of_bex hx_ b) HL3.out.size);have BK4:=hid hB_;clear hB_ hx_)
     |((with_reducible refine Qa (N:=31) rfl ?_);refine Qb (.pointer (some ⟨g,2,none⟩)) (Qc 54 2 (.pointer (some ⟨g,0,none⟩)) (.pointer (some ⟨g,2,none⟩)) (Zt g) _ rfl rfl) rfl ?_)
     |((with_reducible refine Qa (N:=32) rfl ?_);refine Qb (.int .i64 x.2.e) (Qd Zu g 2 (.int .i64 x.2.e) (TC x.2) BK4.out.blk ((QC (a:=3) rfl 2 (by decide)).trans rfl) _ rfl rfl) rfl ?_))
    (first|go_end0|refine bodyPost_ret (results_none rfl _ _ _) rfl ?_)
    have RES:QF L s=(x.2,L):=by unfold QF;rw [HX.out,if_neg C0.out]
    rw [RES]
    exact ⟨rfl,BK4.out,OM4.out,HL4.out⟩
  ·
   obtain ⟨xk,rfl,rfl,_⟩:=Maps.keyOf_str tk9 hkey_
   have RUN:=hid hrun_
   have ENT:=hid hen_
   have CO2:=hid (CO.out.step hlk_ hat_)
   have CNT:=hid hlt_
   have RG2:=hid hrg_
   have BK2:=hid (BK1.out.move (hgr_.block g (by have:=GLT.out;have:=SZ.out;omega) (fun e=>by injection e with e;have:=GLT.out;omega)))
   have HL2:=hid (HL1.out.trans (Tw.of_grown (g:=g) (b:=b) (B:=w.heap.size) hgr_ (by have:=SZ.out;omega) (fun k h=>by injection h with h;exact .inr (by omega))) (Nat.le_refl _))
   have SW2:=hid (SW.out.move (w':=w2) (fun g' cs hg' hh=>(hgr_.block g' hh.lt (fun e=>by injection e with e;omega)).trans hh))
   have SZ2:=hid (show w.heap.size+1≤w2.heap.size from by rw [hsz_];exact SZ.out)
   clear hrun_ hen_ hlk_ hat_ hlt_ hrg_ hgr_ hsz_ hv_ hkey_ SW BK1 HL1 SZ RG CO
   have k1:=True.intro
   go_wp2_with (first
    |((with_reducible refine Qa (N:=10) rfl ?_);refine zV rfl _ 0 rfl rfl (.pointer (some ⟨w.heap.size,0,none⟩)) _ _ rfl RUN.out ?_)
    |((with_reducible refine Qa (N:=12) rfl ?_);refine Qdh rfl _ rfl (.pointer (some ⟨w.heap.size,0,none⟩)) _ rfl ENT.out ?_)
    |((with_reducible refine Qa (N:=16) rfl ?_);obtain ⟨gl,hgl⟩:∃ g_,w2.heap.size=g_:=⟨_,rfl⟩;refine VA Kx (encStr xk) gl hgl rfl _ rfl rfl (fun w_=>by kernel_rfl) ?_;intro w3 hb_ hB_ hs_;have GLl:=hid (show w.heap.size+1≤gl from by have:=SZ2.out;omega);have BK3:=hid (BK2.out.move (hb_.block g (by have:=GLT.out;have:=GLl.out;omega)));have HL3:=hid (HL2.out.trans (Tw.of_below (hb_.mono (show w.heap.size≤gl by have:=GLl.out;omega)) g b) (Nat.le_refl _));have SW3:=hid (SW2.out.below (by rw [hgl];exact hb_));have RG3:=hid (qT RG2.out (hb_.block b (by have:=BLT.out;have:=GLl.out;omega)) (hb_.block _ (by have:=GLl.out;omega)));have SZ3:=hid (show w.heap.size+1≤w3.heap.size from by rw [hs_];have:=GLl.out;omega);have BKl:=hid hB_;clear hb_ hB_ hs_ hgl)
    |(at_builtin;clear k1;refine KL QgQ (w.heap.size+1) _ (ss.map encStr) (encStr xk) gl 1 SW3.out BKl.out rfl (by rw [List.length_map];have:=LE.out;omega) (by rw [List.length_map];have:=LE.out;unfold maxLen;omega) SZ3.out rfl _ _ rfl rfl rfl ?_;intro u4 w4 ho_ hb_ hk_ hi_;have SW4:=hid (show Own w4 (w.heap.size+1) 9 u4 ((ss++[xk]).map encStr) from by rw [List.map_append];exact ho_);have BK4:=hid (BK3.out.move (hb_.block g (by have:=GLT.out;omega)));have HL4:=hid (HL3.out.trans (Tw.of_below (hb_.mono (show w.heap.size≤w.heap.size+1 by omega)) g b) (Nat.le_refl _));have RG4:=hid (qT RG3.out (hb_.block b (by have:=BLT.out;omega)) (hb_.block _ (by omega)));have SZ4:=hid (Nat.le_trans SZ3.out hb_.size);clear ho_ hb_ hk_ hi_))
   go_roundg cnt2
   case measure=>exact CNT.out
   case rel=>exact ⟨u4,ss++[xk],_,rfl,SW4,RG4,CO2,hid (by have h1_:=LE.out;have h2_:=CNT.out;simp only [List.length_append,List.length_cons,List.length_nil];omega),BK4,HL4,SZ4⟩
end Go.Proofs.YtaipghemddjecaaGreatDoor
