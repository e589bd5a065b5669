import Derived.WalkKit
import Derived.Laws.Cover4
import Derived.Lib.OthersKept
import Derived.Laws.RangeAny
import Derived.Laws.Rows
import Derived.Laws.Tables
import Derived.OwnWalk
import Derived.Test.YtaipghemddjecaaGreatDoorProg
import Derived.Deep.QuietTactic
import Derived.BigQuiet
import Derived.Laws.AppendOwn
namespace Go.Proofs.YtaipghemddjecaaGreatDoor
set_option maxHeartbeats 40000000
set_option maxRecDepth 100000
open Go.RowKit
theorem hid{p:Prop}(h:p):Hid p:=h
theorem VX{k:IntKind}{a b:Int}(h:a=b):Ending.returned (.int k a)=.returned (.int k b):=by rw [h]
theorem zH{a b:Bool}(h:a=b):Ending.returned (.bool a)=.returned (.bool b):=by rw [h]
theorem QbY{k:IntKind}{a b:Int}{c d:Bool}(h:a=b)(h2:c=d):Ending.returned (.tuple #[.int k a,.bool c])=.returned (.tuple #[.int k b,.bool d]):=by rw [h,h2]
theorem QbV{a b:Int}(h:a=b):(a==b)=true:=by simp [h]
theorem xC{a b:Int}(h:a≠b):(a==b)=false:=by simp [h]
theorem vL{a b:Int}(h:a≠b):(a != b)=true:=by simp [h]
def bt(t:ByteArray)(i:Nat):Int:=((t.data.toList.getD i 0).toNat:Int)
theorem kF(t:ByteArray)(i:Nat)(h:i<t.size):((t[i]'h).toNat:Int)=bt t i:=by
  unfold bt
  have h':i<t.data.toList.length:=by simpa using h
  rw [List.getD_eq_getElem?_getD,List.getElem?_eq_getElem h']
  rfl
theorem xu(t:ByteArray)(i:Nat):0≤bt t i:=by unfold bt;omega
theorem QbB(t:ByteArray)(i:Nat):bt t i<256:=by unfold bt;have:=(t.data.toList.getD i 0).toNat_lt;omega
def Kb(s:Int):ByteArray:=if 0≤s∧s<64 then ⟨#[UInt8.ofNat (97+(s%8).toNat),UInt8.ofNat (49+(s/8).toNat)]⟩ else ⟨#[45]⟩
theorem Qcd{s:Int}(h0:0≤s)(h1:s<64):Kb s=⟨#[UInt8.ofNat (97+(s%8).toNat),UInt8.ofNat (49+(s/8).toNat)]⟩:=by unfold Kb;rw [if_pos ⟨h0,h1⟩]
theorem zb{s:Int}(h:¬ (0≤s∧s<64)):Kb s=⟨#[45]⟩:=by unfold Kb;rw [if_neg h]
theorem qi{a:Int}(h0:0≤a)(h1:a<128):Utf8.encode a=⟨#[UInt8.ofNat a.toNat]⟩:=by
  have hv:Utf8.valid a=true:=by unfold Utf8.valid;simp;omega
  unfold Utf8.encode
  simp only [hv,if_true]
  rw [if_pos (by omega)]
theorem zc(a b:Array UInt8):(⟨a⟩:ByteArray)++⟨b⟩=⟨a++b⟩:=ByteArray.ext (by simp)
theorem QfM{a b:Int}(h0:0≤a)(h1:a<128)(h2:0≤b)(h3:b<128):runesBytes [a,b]=⟨#[UInt8.ofNat a.toNat,UInt8.ofNat b.toNat]⟩:=by
  unfold runesBytes
  simp only [List.foldl_cons,List.foldl_nil,qi h0 h1,qi h2 h3]
  rw [show (ByteArray.empty:ByteArray)=⟨#[]⟩ from rfl,zc,zc]
  rfl
set_option maxHeartbeats 40000000
set_option maxRecDepth 100000
open Go.RowKit
def Blk(w:World)(g:Nat)(t:TypeId)(cs:Array Value):Prop:=w.heap[g]?=some (.cells cs t (0,0))
def Itr(w:World)(g:Nat)(s:ByteArray)(pos:Nat):Prop:=w.heap[g]?=some (.stringIter s pos)
section
variable {w w':World} {g g' B pos p:Nat} {t t':TypeId} {cs cs':Array Value} {s s':ByteArray}
theorem jm{o:Obj}(h:w.heap[g]?=some o):g<w.heap.size:=by
  rcases Nat.lt_or_ge g w.heap.size with hlt|hge
  · exact hlt
  · rw [Array.getElem?_eq_none hge] at h;cases h
theorem Blk.lt(h:Blk w g t cs):g<w.heap.size:=jm h
theorem Itr.lt(h:Itr w g s pos):g<w.heap.size:=jm h
theorem Blk.cell(h:Blk w g t cs)(i:Nat):w.cell? ⟨g,i,none⟩=cs[i]?:=by unfold Blk at h;simp [World.cell?,h]
theorem Blk.free(h:Blk w g t cs)(i:Nat):w.frozen? ⟨g,i,none⟩=false:=by unfold Blk at h;simp [World.frozen?,h]
theorem Blk.new(w:World)(t:TypeId)(cs:Array Value):Blk (w.alloc (.cells cs t)) w.heap.size t cs:=by
  show (w.heap.push _)[w.heap.size]?=_
  simp
theorem Blk.alloc(h:Blk w g t cs)(o:Obj):Blk (w.alloc o) g t cs:=(Below.heap_alloc w o g h.lt).trans h
theorem Itr.alloc(h:Itr w g s pos)(o:Obj):Itr (w.alloc o) g s pos:=(Below.heap_alloc w o g h.lt).trans h
theorem Itr.new(w:World)(s:ByteArray):Itr (w.iter s 0) w.heap.size s 0:=by
  show (w.heap.push _)[w.heap.size]?=_
  simp
theorem Blk.iter(h:Blk w g t cs)(s:ByteArray)(pos:Nat):Blk (w.iter s pos) g t cs:=by
  show (w.heap.push _)[g]?=_
  rw [Array.getElem?_push,if_neg (by have:=h.lt;omega)];exact h
theorem Blk.set(h:Blk w g t cs)(i:Nat)(u:Value):Blk (w.setCell ⟨g,i,none⟩ u) g t (cs.setIfInBounds i u):=by
  unfold Blk at h ⊢
  simp [World.setCell,Array.getElem?_modify,h]
theorem Blk.below(h:Blk w g t cs)(hb:Below B w w')(hg:g<B):Blk w' g t cs:=(hb.block g hg).trans h
theorem Itr.below(h:Itr w g s pos)(hb:Below B w w')(hg:g<B):Itr w' g s pos:=(hb.block g hg).trans h
theorem Blk.at_(h:Blk w g t cs)(hne:g≠p):Blk (w.iterAt p s pos) g t cs:=(Lib.iterAt_other w p g s pos hne).trans h
theorem Itr.at_(h:Itr w g s pos)(pos':Nat):Itr (w.iterAt g s pos') g s pos':=Lib.iterAt_heap w g s pos pos' h
theorem Vp{a:World}(h:Below B a w)(hB:B≤w.heap.size)(s:ByteArray)(pos:Nat):Below B a (w.iter s pos):=
  h.trans ⟨rfl,rfl,rfl,by show w.heap.size≤(w.heap.push _).size;rw [Array.size_push];omega,fun k hk=>by
    show (w.heap.push _)[k]?=_
    rw [Array.getElem?_push,if_neg (by omega)]⟩
end
set_option maxHeartbeats 40000000
set_option maxRecDepth 100000
open Go.RowKit
structure Off (g:Nat) (w w':World):Prop where
  os:w'.os=w.os
  tape:w'.tape=w.tape
  output:w'.output=w.output
  size:w'.heap.size=w.heap.size
  block:∀ k,k≠g→w'.heap[k]?=w.heap[k]?
section
variable {w w':World} {g g' B pos:Nat} {t t':TypeId} {cs cs':Array Value} {s:ByteArray}
theorem Off.below{a:World}(h:Off g w w')(hb:Below B a w)(hg:B≤g):Below B a w':=
  hb.trans ⟨h.os,h.tape,h.output,Nat.le_of_eq h.size.symm,fun k hk=>h.block k (by omega)⟩
theorem Blk.off(h:Blk w g t cs)(ho:Off g' w w')(hne:g≠g'):Blk w' g t cs:=(ho.block g hne).trans h
theorem Itr.off(h:Itr w g s pos)(ho:Off g' w w')(hne:g≠g'):Itr w' g s pos:=(ho.block g hne).trans h
theorem jg(w:World)(g:Nat)(cs:Array Value):Off g w (w.setRow g cs):=⟨rfl,rfl,rfl,setRow_size w g cs,fun k hk=>setRow_other w g k cs hk⟩
theorem Off.trans{w'':World}(h:Off g w w')(h':Off g w' w''):Off g w w'':=
  ⟨h'.os.trans h.os,h'.tape.trans h.tape,h'.output.trans h.output,h'.size.trans h.size,fun k hk=>(h'.block k hk).trans (h.block k hk)⟩
def KY:List Value→Nat→Array Value→Array Value
  | [],_,cur=>cur
  |v::r,i,cur=>KY r (i+1) (cur.setIfInBounds i v)
theorem Kh:∀ (vs:List Value) (i:Nat) (cur:Array Value),i+vs.length≤cur.size→(KY vs i cur).toList=cur.toList.take i++vs++cur.toList.drop (i+vs.length)
  | [],i,cur,_=>by simp [KY]
  |v::r,i,cur,h=>by
    simp only [List.length_cons] at h
    rw [KY,Kh r (i+1) _ (by simp;omega)]
    apply List.ext_getElem?
    intro k
    simp only [Array.toList_setIfInBounds,List.getElem?_append,List.length_take,List.length_set,Array.length_toList,List.length_append,List.length_cons,List.getElem?_drop,List.getElem?_take,List.getElem?_set]
    by_cases hk:k<i
    · simp [show k<i+1 by omega,show min (i+1) cur.size=i+1 by omega,show min i cur.size=i by omega,hk,show k<i+1+r.length by omega,show k<i+(r.length+1) by omega,show i≠k by omega]
    · by_cases hk2:k=i
      · subst hk2
        simp [show min (k+1) cur.size=k+1 by omega,show min k cur.size=k by omega,show k<cur.size by omega,show k<k+1+r.length by omega]
      · by_cases hk3:k<i+1+r.length
        · simp [show min (i+1) cur.size=i+1 by omega,show min i cur.size=i by omega,show ¬ k<i+1 by omega,hk,hk3,show k<i+(r.length+1) by omega,show k-i=(k-(i+1))+1 by omega]
        · simp [show min (i+1) cur.size=i+1 by omega,show min i cur.size=i by omega,hk3,show ¬ k<i+(r.length+1) by omega,show i+1+r.length+(k-(i+1+r.length))=i+(r.length+1)+(k-(i+(r.length+1))) by omega,show i≠i+(r.length+1)+(k-(i+(r.length+1))) by omega]
end
section
variable {P:Program}
theorem KK(g off i:Nat):(⟨g,off,none⟩:Addr).add i=⟨g,off+i,none⟩:=by unfold Addr.add;split <;> simp_all
theorem Vm(g off:Nat)(t:TypeId):∀ (vs:List Value) (i:Nat) (cur:Array Value) (w:World),Blk w g t cur→off+i+vs.length≤cur.size→(∀ v∈vs,v.oneCell'=true) →
    (storeCells ⟨g,off,none⟩ vs i).run P w=.ok () (w.setRow g (KY vs (off+i) cur))
  | [],i,cur,w,hg,_,_=>by
    have e:w.setRow g cur=w:=by
      have hlt:=hg.lt
      have hv:w.heap[g]=.cells cur t (0,0):=(Array.getElem?_eq_some_iff.1 hg).2
      unfold World.setRow
      cases w with
      |mk heap tape drawn os output=>
        congr 1
        apply Array.ext
        · simp
        · intro k h1 h2
          simp only [Array.getElem_modify]
          split
          · rename_i hk;subst hk;simp at hv;simp [hv]
          · rfl
    simp only [storeCells,KY,e]
    rfl
  |v::rest,i,cur,w,hg,hl,h1=>by
    simp only [List.length_cons] at hl
    have hi:off+i<cur.size:=by omega
    have hcell:w.cell? ⟨g,off+i,none⟩=some cur[off+i]:=by rw [hg.cell];simp [hi]
    have hst:(store ((⟨g,off,none⟩:Addr).add i) v).run P w=.ok () (w.setRow g (cur.setIfInBounds (off+i) v)):=by
      rw [KK,run_store P w _ v _ (h1 v (by simp)),hcell]
      simp [hg.free,setCell_eq_setRow w g (off+i) cur t (0,0) v hg]
    have ih:=Vm g off t rest (i+1) (cur.setIfInBounds (off+i) v) (w.setRow g (cur.setIfInBounds (off+i) v)) (setRow_heap w g cur _ t _ hg) (by simp;omega) (fun x hx=>h1 x (by simp [hx]))
    simp only [storeCells,Sem.run_bind,hst,Result.andThen_ok,ih,setRow_setRow]
    rfl
structure AggT (P:Program) (t:TypeId) (n:Nat) (z:Array Value):Prop where
  agg:∀ w,(isAgg t).run P w=.ok true w
  size:∀ w,(sizeOf t).run P w=.ok n w
  zero:∀ w,(zeroValue t).run P w=.ok (.agg z) w
  zsize:z.size=n
variable {t t':TypeId} {n:Nat} {z:Array Value} {w:World}
theorem kz(T:AggT P t n z)(g off:Nat)(cs:Array Value)(hB:Blk w g t' cs)(hle:off+n≤cs.size):
    (loadVar t ⟨g,off,none⟩).run P w=.ok (.agg (cs.extract off (off+n))) w:=by
  have hl:(loadCells ⟨g,off,none⟩ (cs.extract off (off+n)).toList.length).run P w=.ok (cs.extract off (off+n)).toList.toArray w:=
    run_loadCells_list (P:=P) w ⟨g,off,none⟩ (cs.extract off (off+n)).toList (fun j v hv=>by
      rw [KK,hB.cell,← hv,Array.getElem?_toList,Array.getElem?_extract]
      have hj:j<(cs.extract off (off+n)).size:=by
        rcases Nat.lt_or_ge j (cs.extract off (off+n)).size with h|h
        · exact h
        · rw [Array.getElem?_toList,Array.getElem?_eq_none h] at hv;cases hv
      rw [if_pos (by simpa using hj)])
  have e:(cs.extract off (off+n)).size=n:=by simp;omega
  rw [Array.length_toList,e,Array.toArray_toList] at hl
  simp [loadVar,Sem.run_bind,T.agg,T.size,hl]
theorem Qfu(T:AggT P t n z)(g off:Nat)(cs vs:Array Value)(hB:Blk w g t' cs)(hn:vs.size=n)(hle:off+n≤cs.size)(h1:∀ v∈vs.toList,v.oneCell'=true):
    (storeVar t ⟨g,off,none⟩ (.agg vs)).run P w=.ok () (w.setRow g (KY vs.toList off cs)):=by
  have h:=Vm (P:=P) g off t' vs.toList 0 cs w hB (by simp;omega) h1
  simp [storeVar,Sem.run_bind,T.size,Value.cells,hn]
  simpa using h
variable {ops:Array Oper} {rest:List Oper} {o:Oper} {a:Act} {Q:Exit→Act→World→Prop}
theorem JZ(hw:Region.wanted o (yielded ops a.tmps)=true)(h:∀ K:Act→World→Prop,(∀ a w,wpList P ops Q rest a w→K a w)→o.wp P a w K Q):wpList P ops Q (o::rest) a w:=
  wpList_step fun K hK=>by simp only [hw,if_true];exact h K hK
theorem Qq(T:AggT P t n z)(g:Nat)(hg:w.heap.size=g)(hgd:Region.wanted o (yielded ops a.tmps)=true)(ho:o.op=.alloc t)
    (h:∀ w1,Below g w w1→Blk w1 g t z→w1.heap.size=g+1→wpList P ops Q rest (a.put o.dst (.pointer (some ⟨g,0,none⟩))) w1):
    wpList P ops Q (o::rest) a w:=by
  subst hg
  refine JZ hgd fun K hK=>?_
  have:=h (w.alloc (.cells z t)) ((Below.refl _ _).alloc (Nat.le_refl _) _) (Blk.new _ _ _) (by simp)
  unfold Oper.wp execOp
  simp only [ho,Instr.alloc,Sem.run_bind,T.zero,Result.andThen_ok,newVar,newRow,run_newObj_alloc,Sem.run_pure,Value.cells]
  exact hK _ _ this
theorem Jx(cs:Array Value)(g:Nat)(hg:w.heap.size=g)(hgd:Region.wanted o (yielded ops a.tmps)=true)(x:Operand)(ho:o.op=.box t x)(hx:a.eval x=.agg cs)
    (h:∀ w1,Below g w w1→Blk w1 g t cs→w1.heap.size=g+1→wpList P ops Q rest (a.put o.dst (.pointer (some ⟨g,0,none⟩))) w1):
    wpList P ops Q (o::rest) a w:=by
  subst hg
  refine JZ hgd fun K hK=>?_
  have:=h (w.alloc (.cells cs t)) ((Below.refl _ _).alloc (Nat.le_refl _) _) (Blk.new _ _ _) (by simp)
  unfold Oper.wp execOp
  simp only [ho,hx,Instr.box,Sem.run_bind,Result.andThen_ok,newVar,newRow,run_newObj_alloc,Sem.run_pure,Value.cells]
  exact hK _ _ this
theorem Qg(T:AggT P t n z)(g off:Nat)(cs vs cs':Array Value)(hB:Blk w g t' cs)(hn:vs.size=n)(hle:off+n≤cs.size)(h1:∀ v∈vs.toList,v.oneCell'=true)
    (hv:KY vs.toList off cs=cs') (hgd:Region.wanted o (yielded ops a.tmps)=true) (x y:Operand) (ho:o.op=.store t x y)
    (hx:a.eval x=.pointer (some ⟨g,off,none⟩)) (hy:a.eval y=.agg vs)
    (h:∀ w1,Off g w w1→Blk w1 g t' cs'→wpList P ops Q rest (a.put o.dst undef) w1):wpList P ops Q (o::rest) a w:=by
  refine JZ hgd fun K hK=>?_
  have:=h (w.setRow g cs') (jg _ _ _) (setRow_heap w g cs cs' t' (0,0) hB)
  unfold Oper.wp execOp
  simp only [ho,hx,hy,Instr.storeAt,Instr.sureAddr,Sem.run_bind,Sem.run_pure,Result.andThen_ok,Qfu T g off cs vs hB hn hle h1,hv]
  exact hK _ _ this
theorem Qr(v:Value)(parts:Array (Nat×Operand))(hgd:Region.wanted o (yielded ops a.tmps)=true)(ho:o.op=.build t parts)(hr:∀ w,(Instr.build t (parts.map fun (i,x)=>(i,a.eval x))).run P w=.ok v w)
    (h:wpList P ops Q rest (a.put o.dst v) w):wpList P ops Q (o::rest) a w:=by
  refine JZ hgd fun K hK=>?_
  unfold Oper.wp execOp
  simp only [ho,Sem.run_bind,hr,Result.andThen_ok,Sem.run_pure]
  exact hK _ _ h
theorem Qas(T:AggT P t n z){fn:Func}{p:Tmp}(hr:fn.results=#[.cell p t])(tmps:Array Value)(g:Nat)(cs:Array Value)(hB:Blk w g t' cs)(hn:cs.size=n)
    (hp:tmps.getD p undef=.pointer (some ⟨g,0,none⟩)):(results fn tmps).run P w=.ok (.agg cs) w:=by
  have hp':tmps[p]?.getD undef=.pointer (some ⟨g,0,none⟩):=by simpa using hp
  have hl:=kz (P:=P) T g 0 cs hB (by omega)
  rw [Nat.zero_add,← hn,Array.extract_size] at hl
  simp [results,hr,hp',asAddr,hl]
end
set_option maxHeartbeats 40000000
set_option maxRecDepth 100000
open Go.RowKit
def bv(l:List Int):Array Value:=(l.map (Value.int .i8)).toArray
def pv(l:List Int)(t c e:Int):Array Value:=(l.map (Value.int .i8)++[Value.int .i64 t,Value.int .i64 c,Value.int .i64 e]).toArray
def zL:List Int:=List.replicate 64 0
theorem Qh:zL.length=64:=rfl
theorem kA(w:World):(isAgg 24).run Tryz.prog w=.ok true w:=by kernel_rfl
theorem xo(w:World):(sizeOf 24).run Tryz.prog w=.ok 64 w:=by kernel_rfl
theorem xp(w:World):(zeroValue 24).run Tryz.prog w=.ok (.agg (bv zL)) w:=by kernel_rfl
theorem Jc:AggT Tryz.prog 24 64 (bv zL):=⟨kA,xo,xp,rfl⟩
theorem Qbz(w:World):(isAgg 26).run Tryz.prog w=.ok true w:=by kernel_rfl
theorem Qat(w:World):(sizeOf 26).run Tryz.prog w=.ok 67 w:=by kernel_rfl
theorem Qau(w:World):(zeroValue 26).run Tryz.prog w=.ok (.agg (pv zL 0 0 0)) w:=by kernel_rfl
theorem Qav:AggT Tryz.prog 26 67 (pv zL 0 0 0):=⟨Qbz,Qat,Qau,rfl⟩
theorem Qaw:Tryz.prog.underlying 24=some (.array 64 22):=by kernel_rfl
def B8(l:List Int):Prop:=l.length=64 ∧ ∀ i,-128≤l.getD i 0∧l.getD i 0≤127
set_option maxHeartbeats 40000000
set_option maxRecDepth 100000
open Go.RowKit
def Up(w:World):Type:={ v:World // Below w.heap.size w v }
def Up.top(w:World):Up w:=⟨w,Below.refl _ _⟩
def Up.world{w:World}(n:Up w):World:=n.1
theorem Up.below{w:World}(n:Up w):Below w.heap.size w n.world:=n.2
instance (w:World):Nonempty (Up w):=⟨Up.top w⟩
theorem Up.next{w w':World}(n:Up w){B:Nat}(h:Below B n.world w')(hB:w.heap.size≤B):∃ m:Up w,w'=m.world:=⟨⟨w',n.below.trans (h.mono hB)⟩,rfl⟩
section
variable {P:Program} {ops:Array Oper} {w:World}
theorem Qaz{id:Nat}{Q:Exit→Act→World→Prop}{a:Act}{l:List Oper}(hm:P.follows .mixedOrders=true)(hB:Region.lexB .any l.toArray=true)
    (h:wpQuiet P l.toArray (fun w'=>∃ n:Up w,w'=n.world) (fun a'=>∀ w',(∃ n:Up w,w'=n.world)→Q .normal a' w') l a):(Code.region id l.toArray true).wp P Q a w:=
  wp_region_quiet (C:=fun w'=>∃ n:Up w,w'=n.world) hm hB ⟨⟨w.drew,(Below.refl _ _).drew⟩,rfl⟩ (by simpa using h)
variable {C:World→Prop} {o:Oper} {a:Act} {K:Act→Prop} {t t':TypeId} {n:Nat} {z:Array Value}
end
set_option maxHeartbeats 40000000
set_option maxRecDepth 100000
open Go.RowKit
def Own(w:World)(B:Nat)(e:TypeId)(v:Value)(xs:List Value):Prop:=w.ownsRow B e 1 v xs.length xs
section
variable {w w':World} {B B' g g':Nat} {e t:TypeId} {v:Value} {xs:List Value} {cs:Array Value}
theorem Own.nil(w:World)(B:Nat)(e:TypeId):Own w B e (.slice none 0 0) []:=World.ownsRow_nil _ _ _ _
theorem Own.alloc(h:Own w B e v xs)(o:Obj):Own (w.alloc o) B e v xs:=World.ownsRow.alloc h o
theorem Own.form(h:Own w B e v xs):(v=.slice none 0 0∧xs=[]) ∨ ∃ g cap cur,v=.slice (some ⟨g,0,none⟩) xs.length cap∧B≤g∧Blk w g e cur∧xs.length≤cap∧cap≤maxLen∧cur.size=cap∧cur.toList.take xs.length=xs:=by
  obtain ⟨_,h2⟩:=h
  rcases h2 with ⟨rfl,h0⟩|⟨g,cap,cur,rfl,hb,hh,hn,hm,hs,ht⟩
  · exact .inl ⟨rfl,List.eq_nil_of_length_eq_zero h0⟩
  · exact .inr ⟨g,cap,cur,rfl,hb,hh,hn,hm,by simpa using hs,by simpa using ht⟩
theorem Own.of_blk(hB:B≤g)(hh:Blk w g e cs)(hn:xs.length≤cs.size)(hm:cs.size≤maxLen)(ht:cs.toList.take xs.length=xs):Own w B e (.slice (some ⟨g,0,none⟩) xs.length cs.size) xs:=
  ⟨by simp,.inr ⟨g,cs.size,cs,rfl,hB,hh,hn,hm,by simp,by simpa using ht⟩⟩
theorem Own.move(h:Own w B e v xs)(hk:∀ g cs,B≤g→Blk w g e cs→Blk w' g e cs):Own w' B e v xs:=by
  rcases h.form with ⟨rfl,rfl⟩|⟨g,cap,cur,rfl,hb,hh,hn,hm,hs,ht⟩
  · exact Own.nil _ _ _
  · subst hs;exact Own.of_blk hb (hk g cur hb hh) hn hm ht
theorem Own.below(h:Own w B e v xs)(hb:Below w.heap.size w w'):Own w' B e v xs:=h.move fun _ _ _ hh=>hh.below hb hh.lt
theorem Own.mono(h:Own w B e v xs)(hB:B'≤B):Own w B' e v xs:=by
  rcases h.form with ⟨rfl,rfl⟩|⟨g,cap,cur,rfl,hb,hh,hn,hm,hs,ht⟩
  · exact Own.nil _ _ _
  · subst hs;exact Own.of_blk (Nat.le_trans hB hb) hh hn hm ht
theorem Own.off(h:Own w B e v xs)(ho:Off g w w')(hg:Blk w g t cs)(hne:t≠e):Own w' B e v xs:=h.move fun g' cs' _ hh=>hh.off ho (by
  rintro rfl
  unfold Blk at hh hg
  rw [hh] at hg
  injection hg with hg
  injection hg with _ ht
  exact hne ht.symm)
theorem Own.at_(h:Own w B e v xs)(k:Nat)(s:ByteArray)(p:Nat)(hk:Itr w k s p)(p':Nat):Own (w.iterAt k s p') B e v xs:=h.move fun g' cs' hb hh=>hh.at_ (by
  rintro rfl
  unfold Blk at hh;unfold Itr at hk
  rw [hh] at hk;cases hk)
theorem Own.cell(h:Own w B e v xs)(i:Nat)(hi:i<xs.length):∃ g cap,v=.slice (some ⟨g,0,none⟩) xs.length cap∧B≤g∧xs.length≤cap∧cap≤maxLen∧w.cell? ⟨g,i,none⟩=some (xs[i]'hi):=by
  rcases h.form with ⟨rfl,rfl⟩|⟨g,cap,cur,rfl,hb,hh,hn,hm,hs,ht⟩
  · simp at hi
  · refine ⟨g,cap,rfl,hb,hn,hm,?_⟩
    rw [hh.cell]
    have:(cur.toList.take xs.length)[i]?=xs[i]?:=by rw [ht]
    rw [List.getElem?_take,if_pos hi,Array.getElem?_toList] at this
    rw [this,List.getElem?_eq_getElem hi]
theorem Own.shape(h:Own w B e v xs):∃ A cap,v=.slice A xs.length cap:=by
  rcases h.form with ⟨rfl,rfl⟩|⟨g,cap,cur,rfl,_⟩
  · exact ⟨_,_,rfl⟩
  · exact ⟨_,_,rfl⟩
end
structure ElemT (P:Program) (t e:TypeId) (bytes:Nat):Prop where
  und:P.underlying t=some (.slice e)
  info:∃ i z,P.info? e=some i∧i.zero=some z∧i.size=1∧i.bytes=bytes∧z.cells.size=1
section
variable {P:Program} {t e:TypeId} {bytes:Nat} {w:World} {ops:Array Oper} {rest:List Oper} {o:Oper} {a:Act} {Q:Exit→Act→World→Prop}
theorem KL(E:ElemT P t e bytes)(B:Nat)(v:Value)(xs:List Value)(u:Value)(g c:Nat)(hown:Own w B e v xs)(hg:Blk w g e #[u])(h1:u.oneCell'=true)(hlen:(xs.length+1)*bytes≤140737488355328)(hl:xs.length+1≤maxLen)(hB:B≤w.heap.size)
    (hgd:o.guard=none) (s x:Operand) (ho:o.op=.call { callee:=.builtin .append,args:=#[s,x],argTypes:=#[t,t] }) (hs:a.eval s=v) (hx:a.eval x=.slice (some ⟨g,0,none⟩) 1 c)
    (h:∀ v' w',Own w' B e v' (xs++[u])→Below B w w'→(∀ g' t' cs,t'≠e→Blk w g' t' cs→Blk w' g' t' cs)→(∀ g' s p,Itr w g' s p→Itr w' g' s p)→wpList P ops Q rest (a.put o.dst v') w'):wpList P ops Q (o::rest) a w:=by
  obtain ⟨i,z,hi,hz,hz1,hz2,hzs⟩:=E.info
  refine wpList_append_own w hgd s x t ho B e i z 1 bytes E.und hi hz hz1 hz2 hzs (by decide) v xs.length xs hs hown ⟨g,0,none⟩ 1 c [u] hx rfl (fun j y hj=>?_) (by simpa using h1) hl hlen hB ?_
  · match j,hj with
    |0,hj=>rw [KK,hg.cell];exact hj
  · intro v' w' h2 h3 _
    have hrow:∀ k,v.ownBlock=some k→B≤k:=fun k hk=>(World.ownsRow.lt hown k hk).1
    refine h v' w' (by unfold Own;rw [List.length_append];exact h2) ((Below.refl _ _).grown h3 hB hrow) (fun g' t' cs hne hb=>?_) (fun g' s p hb=>?_)
    · refine (h3.block g' hb.lt (fun he=>?_)).trans hb
      rcases hown.form with ⟨rfl,_⟩|⟨g2,cap,cur,rfl,_,hh,_⟩
      · simp [Value.ownBlock] at he
      · simp [Value.ownBlock] at he
        subst he
        unfold Blk at hh hb
        rw [hh] at hb;injection hb with hb;injection hb with _ ht;exact hne ht.symm
    · refine (h3.block g' hb.lt (fun he=>?_)).trans hb
      rcases hown.form with ⟨rfl,_⟩|⟨g2,cap,cur,rfl,_,hh,_⟩
      · simp [Value.ownBlock] at he
      · simp [Value.ownBlock] at he
        subst he
        unfold Blk at hh;unfold Itr at hb
        rw [hh] at hb;cases hb
end
end Go.Proofs.YtaipghemddjecaaGreatDoor
