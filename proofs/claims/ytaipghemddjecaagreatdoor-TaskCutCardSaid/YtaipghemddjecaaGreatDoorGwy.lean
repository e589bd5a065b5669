import Derived.Test.YtaipghemddjecaaGreatDoorMiy
import Derived.Test.YtaipghemddjecaaGreatDoorPly
import Derived.Deep.LoopGhost
import Derived.Deep.QuietTactic
import Derived.BigQuiet
import Derived.Laws.StructEq
namespace Go.Proofs.YtaipghemddjecaaGreatDoor
set_option maxHeartbeats 40000000
set_option maxRecDepth 100000
open Go.RowKit
set_option linter.unusedSimpArgs false
set_option linter.unusedVariables false
theorem sI{α:Type}(l:List α)(i:Nat)(a:α):l.toArray.setIfInBounds i a=(l.set i a).toArray:=List.setIfInBounds_toArray ..
theorem sZ{α:Type}(x y:α)(l:List α):(x::l).set 0 y=y::l:=List.set_cons_zero ..
theorem sS{α:Type}(x y:α)(l:List α)(n:Nat):(x::l).set (n+1) y=x::l.set n y:=List.set_cons_succ ..
def av{α:Type}(f:α→Value)(l:List α):Array Value:=(l.map f).toArray
def nt{α:Type}(l:List α)(i:Nat)(d:α):α:=l.getD i d
def xv{α:Type}(f:α→Value)(l:List α)(cs:List Value):Array Value:=(l.map f++cs).toArray
section
variable {α:Type} {f:α→Value} {l l':List α} {cs cs':List Value} {n:Nat}
theorem Jh:(av f l).size=l.length:=by unfold av;simp
theorem QE:(xv f l cs).size=l.length+cs.length:=by unfold xv;simp
theorem Vz(d:α){i:Nat}(h:i<l.length):(av f l)[i]?=some (f (nt l i d)):=by
 unfold av nt;simp [List.getElem?_eq_getElem h]
theorem QbH(i:Nat)(x:α):(av f l).setIfInBounds i (f x)=av f (l.set i x):=by
 unfold av;simp [List.map_set]
theorem ZE(h:∀ x,(f x).oneCell'=true):∀ v∈(av f l).toList,v.oneCell'=true:=by
 unfold av;intro v hv;simp at hv;obtain ⟨x,_,rfl⟩:=hv;exact h x
theorem ZX(hl:l.length=n):0+n≤(av f l).size:=by rw [Jh,hl];omega
theorem jV(hl:l.length=n):(av f l).extract 0 (0+n)=av f l:=by rw [show 0+n=(av f l).size by rw [Jh,hl];omega,Array.extract_size]
theorem ZL(hl:l.length=n)(hl':l'.length=n):KY (av f l').toList 0 (av f l)=av f l':=by
 apply Array.ext'
 rw [Kh _ _ _ (by unfold av;simp;omega)]
 unfold av
 simp [hl,hl']
theorem vG(d:α){i:Nat}(h:i<l.length):(xv f l cs)[i]?=some (f (nt l i d)):=by
 unfold xv nt;simp [List.getElem?_append,h]
theorem Qi(hl:l.length=n)(j m:Nat)(hm:m=n+j):(xv f l cs)[m]?=cs[j]?:=by
 subst hm;unfold xv;simp [List.getElem?_append,hl]
 intro h;omega
theorem vF{i:Nat}(h:i<l.length)(x:α):(xv f l cs).setIfInBounds i (f x)=xv f (l.set i x) cs:=by
 unfold xv;simp [List.map_set,List.set_append,h]
theorem JB(hl:l.length=n)(j m:Nat)(hm:m=n+j)(v:Value):(xv f l cs).setIfInBounds m v=xv f l (cs.set j v):=by
 subst hm;unfold xv;simp [List.set_append,hl]
theorem XH(h:∀ x,(f x).oneCell'=true)(h2:∀ v∈cs,v.oneCell'=true):∀ v∈(xv f l cs).toList,v.oneCell'=true:=by
  unfold xv;intro v hv;simp at hv;rcases hv with ⟨x,_,rfl⟩|hv
  · exact h x
  · exact h2 v hv
theorem XX(hl:l.length=n)(m:Nat)(hm:m=n+cs.length):0+m≤(xv f l cs).size:=by rw [QE,hl];omega
theorem QbI(hl:l.length=n)(m:Nat)(hm:m=n+cs.length):(xv f l cs).extract 0 (0+m)=xv f l cs:=by
 rw [show 0+m=(xv f l cs).size by rw [QE,hl];omega,Array.extract_size]
theorem zz(hl:l.length=n):0+n≤(xv f l cs).size:=by rw [QE,hl];omega
theorem zA(hl:l.length=n):(xv f l cs).extract 0 (0+n)=av f l:=by
 apply Array.ext'
 unfold xv av
 simp [hl]
theorem XI(hl:l.length=n)(hl':l'.length=n)(hc:cs.length=cs'.length):KY (xv f l' cs').toList 0 (xv f l cs)=xv f l' cs':=by
 apply Array.ext'
 rw [Kh _ _ _ (by unfold xv;simp;omega)]
 unfold xv
 simp [hl,hl',hc]
end
theorem qy(c:Int):(Utf8.encode c).size≤maxLen:=by
 unfold Utf8.encode maxLen
 dsimp only
 (repeat' split) <;> simp [ByteArray.size]
theorem Zs(n:Int):IntKind.i64.wrap n=wrap64 n:=by unfold wrap64;exact IntKind.wrap_i64 n
theorem ZA(n:Int):IntKind.i32.wrap n=wrap32 n:=by unfold wrap32;exact IntKind.wrap_i32 n
structure Bex (g B:Nat) (w w':World):Prop where
 os:w'.os=w.os
 tape:w'.tape=w.tape
 output:w'.output=w.output
 size:w.heap.size≤w'.heap.size
 block:∀ k,k<B→k≠g→w'.heap[k]?=w.heap[k]?
section
variable {w w' w'':World} {g g' B B' pos:Nat} {t:TypeId} {cs:Array Value} {s:ByteArray}
theorem Bex.refl(g B:Nat)(w:World):Bex g B w w:=⟨rfl,rfl,rfl,Nat.le_refl _,fun _ _ _=>rfl⟩
theorem Bex.of_below(h:Below B w w')(g:Nat):Bex g B w w':=⟨h.os,h.tape,h.output,h.size,fun k hk _=>h.block k hk⟩
theorem Bex.trans(h:Bex g B w w')(h':Bex g B' w' w'')(hB:B≤B'):Bex g B w w'':=
 ⟨h'.os.trans h.os,h'.tape.trans h.tape,h'.output.trans h.output,Nat.le_trans h.size h'.size,fun k hk hg=>(h'.block k (by omega) hg).trans (h.block k hk hg)⟩
theorem Bex.below(h:Bex g B w w')(h':Below B' w' w'')(hB:B≤B'):Bex g B w w'':=h.trans (Bex.of_below h' g) hB
theorem Bex.off(h:Bex g B w w')(ho:Off g' w' w'')(hg:g'=g∨B≤g'):Bex g B w w'':=
 ⟨ho.os.trans h.os,ho.tape.trans h.tape,ho.output.trans h.output,by have:=h.size;have:=ho.size;omega,fun k hk hne=>(ho.block k (by omega)).trans (h.block k hk hne)⟩
theorem Jm{a:World}(hb:Below B a w)(h:Bex g B' w w')(hB:B≤B')(hg:B≤g):Below B a w':=
 hb.trans ⟨h.os,h.tape,h.output,h.size,fun k hk=>h.block k (by omega) (by omega)⟩
theorem Bex.bex{g2:Nat}(h:Bex g B w w')(h':Bex g2 B' w' w'')(hB:B≤B')(hg:g2=g∨B≤g2):Bex g B w w'':=
 ⟨h'.os.trans h.os,h'.tape.trans h.tape,h'.output.trans h.output,Nat.le_trans h.size h'.size,fun k hk hne=>(h'.block k (by omega) (by omega)).trans (h.block k hk hne)⟩
theorem Blk.bex(h:Blk w g t cs)(hx:Bex g' B w w')(hB:g<B)(hne:g≠g'):Blk w' g t cs:=(hx.block g hB hne).trans h
theorem Itr.bex(h:Itr w g s pos)(hx:Bex g' B w w')(hB:g<B)(hne:g≠g'):Itr w' g s pos:=(hx.block g hB hne).trans h
theorem QfC(w:World)(g:Nat)(s:ByteArray)(pos:Nat)(hg:g<w.heap.size):Off g w (w.iterAt g s pos):=
 ⟨rfl,rfl,rfl,by simp [World.iterAt],fun k hk=>Lib.iterAt_other w g k s pos hk⟩
end
section
variable {P:Program} {t t':TypeId} {n:Nat} {z:Array Value} {w:World} {ops:Array Oper} {rest:List Oper} {o:Oper} {a:Act} {Q:Exit→Act→World→Prop}
theorem Qa{N:Tmp}(_h:o.dst=some N)(h:wpList P ops Q (o::rest) a w):wpList P ops Q (o::rest) a w:=h
theorem Qf{p:Tmp}{v:Operand}(_h:o.op=.store t (.tmp p) v)(h:wpList P ops Q (o::rest) a w):wpList P ops Q (o::rest) a w:=h
structure ScT (P:Program) (t:TypeId):Prop where
 agg:∀ w,(isAgg t).run P w=.ok false w
 size:∀ w,(sizeOf t).run P w=.ok 1 w
theorem QdS(hT:ScT P t)(g i:Nat)(v:Value)(cs:Array Value)(hB:Blk w g t' cs)(hv:cs[i]?=some v):(loadVar t ⟨g,i,none⟩).run P w=.ok v w:=by
 have hc:w.cell? ⟨g,i,none⟩=some v:=(hB.cell i).trans hv
 simp [loadVar,Sem.run_bind,hT.agg,run_load,hc]
theorem QH(hT:ScT P t)(g i:Nat)(v:Value)(cs cs':Array Value)(hB:Blk w g t' cs)(hi:i<cs.size)(hc1:v.cells=#[v])(h1:v.oneCell'=true)(hv:cs.setIfInBounds i v=cs')(hgd:Region.wanted o (yielded ops a.tmps)=true)
 (x y:Operand) (ho:o.op=.store t x y) (hx:a.eval x=Pg g i) (hy:a.eval y=v)
 (h:∀ w1,Off g w w1→Blk w1 g t' cs'→wpList P ops Q rest (a.put o.dst undef) w1):wpList P ops Q (o::rest) a w:=by
 refine JZ hgd fun K hK=>?_
 have hst:(storeVar t ⟨g,i,none⟩ v).run P w=.ok () (w.setRow g cs'):=by
  have h2:=Vm (P:=P) g i t' [v] 0 cs w hB (by simp;omega) (by intro u hu;simp at hu;subst hu;exact h1)
  simp only [KY,Nat.add_zero,hv] at h2
  simp [storeVar,Sem.run_bind,hT.size,hc1,h2]
 have:=h (w.setRow g cs') (jg _ _ _) (setRow_heap w g cs cs' t' (0,0) hB)
 unfold Oper.wp execOp
 simp only [ho,hx,hy,Instr.storeAt,Instr.sureAddr,Sem.run_bind,Sem.run_pure,Result.andThen_ok,hst]
 exact hK _ _ this
theorem Vy(s:ByteArray)(g:Nat)(hg:w.heap.size=g)(hu:P.underlying t=some .string)(hgd:Region.wanted o (yielded ops a.tmps)=true)(x:Operand)(ho:o.op=.range t x)(hx:a.eval x=.string s)
 (h:∀ w1,Below g w w1→Itr w1 g s 0→w1.heap.size=g+1→wpList P ops Q rest (a.put o.dst (Pg g 0)) w1):wpList P ops Q (o::rest) a w:=by
 subst hg
 refine JZ hgd fun K hK=>?_
 have:=h (w.iter s 0) (Vp (Below.refl _ _) (Nat.le_refl _) s 0) (Itr.new w s) (by show (w.heap.push _).size=_;simp)
 unfold Oper.wp execOp
 simp only [ho,hx,Sem.run_bind,run_range_string w t s hu,Result.andThen_ok,Sem.run_pure]
 exact hK _ _ this
theorem Qu(s:ByteArray)(g pos:Nat)(hI:Itr w g s pos)(hp:pos<s.size)(hgd:Region.wanted o (yielded ops a.tmps)=true)(x:Operand)(ho:o.op=.next x true)(hx:a.eval x=Pg g 0)
 (h:∀ w1,Off g w w1→Itr w1 g s (pos+(Utf8.decode s pos).2)→wpList P ops Q rest (a.put o.dst (.tuple #[.bool true,Ii pos,.int .i32 (Utf8.decode s pos).1])) w1):wpList P ops Q (o::rest) a w:=by
 refine JZ hgd fun K hK=>?_
 have:=h (w.iterAt g s (pos+(Utf8.decode s pos).2)) (QfC w g s _ hI.lt) (hI.at_ _)
 unfold Oper.wp execOp
 simp only [ho,hx,Sem.run_bind,Lib.run_next_any_at (P:=P) w g s pos _ hI hp,Result.andThen_ok,Sem.run_pure]
 exact hK _ _ this
theorem ZF(s:ByteArray)(g pos:Nat)(hI:Itr w g s pos)(hp:¬ pos<s.size)(hgd:Region.wanted o (yielded ops a.tmps)=true)(x:Operand)(ho:o.op=.next x true)(hx:a.eval x=Pg g 0)
 (h:wpList P ops Q rest (a.put o.dst (.tuple #[.bool false])) w):wpList P ops Q (o::rest) a w:=by
 refine JZ hgd fun K hK=>?_
 unfold Oper.wp execOp
 simp only [ho,hx,Sem.run_bind,Lib.run_next_end_at (P:=P) w g s pos _ hI hp,Result.andThen_ok,Sem.run_pure]
 exact hK _ _ h
theorem Jz(T:AggT P t n z){fn:Func}{p:Tmp}(hr:fn.results=#[.cell p t])(tmps:Array Value)(g:Nat)(cs:Array Value)(hB:Blk w g t' cs)(hn:cs.size=n)
 (hp:tmps.getD p undef=Pg g 0):(results fn tmps).run P w=.ok (.agg cs) w:=Qas T hr tmps g cs hB hn hp
theorem ja(T:AggT P t n z)(g:Nat)(cs:Array Value)(hB:Blk w g t' cs)(hn:cs.size=n):(loadVar t ⟨g,0,none⟩).run P w=.ok (.agg cs) w:=by
 have hl:=kz (P:=P) T g 0 cs hB (by omega)
 rwa [Nat.zero_add,← hn,Array.extract_size] at hl
theorem Xx(T:AggT P t n z){fn:Func}{p q r:Tmp}(hr:fn.results=#[.cell p t,.tmp q,.tmp r])(tmps:Array Value)(g:Nat)(cs:Array Value)(v u:Value)(hB:Blk w g t' cs)(hn:cs.size=n)
 (hp:tmps.getD p undef=Pg g 0) (hq:tmps.getD q undef=v) (hr':tmps.getD r undef=u):(results fn tmps).run P w=.ok (.tuple #[.agg cs,v,u]) w:=by
 have hp':tmps[p]?.getD undef=Pg g 0:=by simpa using hp
 have hq':tmps[q]?.getD undef=v:=by simpa using hq
 have hu':tmps[r]?.getD undef=u:=by simpa using hr'
 have hl:=ja T g cs hB hn
 simp [results,hr,hp',hq',hu',asAddr,hl]
theorem kD(T:AggT P t n z){fn:Func}{p q:Tmp}(hr:fn.results=#[.tmp q,.cell p t])(tmps:Array Value)(g:Nat)(cs:Array Value)(v:Value)(hB:Blk w g t' cs)(hn:cs.size=n)
 (hp:tmps.getD p undef=Pg g 0) (hq:tmps.getD q undef=v):(results fn tmps).run P w=.ok (.tuple #[v,.agg cs]) w:=by
 have hp':tmps[p]?.getD undef=Pg g 0:=by simpa using hp
 have hq':tmps[q]?.getD undef=v:=by simpa using hq
 have hl:=ja T g cs hB hn
 simp [results,hr,hp',hq',asAddr,hl]
theorem VC{t2 t2':TypeId}{n2:Nat}{z2:Array Value}(T:AggT P t n z)(T2:AggT P t2 n2 z2){fn:Func}{p q:Tmp}(hr:fn.results=#[.cell p t,.cell q t2])(tmps:Array Value)(g g2:Nat)(cs cs2:Array Value)(hB:Blk w g t' cs)(hn:cs.size=n)
 (hp:tmps.getD p undef=Pg g 0) (hB2:Blk w g2 t2' cs2) (hn2:cs2.size=n2) (hq:tmps.getD q undef=Pg g2 0):(results fn tmps).run P w=.ok (.tuple #[.agg cs,.agg cs2]) w:=by
 have hp':tmps[p]?.getD undef=Pg g 0:=by simpa using hp
 have hq':tmps[q]?.getD undef=Pg g2 0:=by simpa using hq
 have hl:=ja T g cs hB hn
 have hl2:=ja T2 g2 cs2 hB2 hn2
 simp [results,hr,hp',hq',asAddr,hl,hl2]
end
section
variable {P:Program} {t t':TypeId} {n:Nat} {z:Array Value} {w:World} {ops:Array Oper} {rest:List Oper} {o:Oper} {a:Act} {Q:Exit→Act→World→Prop} {C:World→Prop} {K:Act→Prop} {ev:Operand→Value}
theorem Qb(v:Value)(hr:(execOp a.eval o).run P w=.ok (.value v) w)(hgd:Region.wanted o (yielded ops a.tmps)=true)(h:wpList P ops Q rest (a.put o.dst v) w):wpList P ops Q (o::rest) a w:=by
 refine JZ hgd fun K hK=>?_
 unfold Oper.wp
 rw [hr]
 exact hK _ _ h
theorem Qd(hT:ScT P t)(g i:Nat)(v:Value)(cs:Array Value)(hB:Blk w g t' cs)(hv:cs[i]?=some v)(x:Operand)(ho:o.op=.load t x)
 (hx:ev x=Pg g i):(execOp ev o).run P w=.ok (.value v) w:=by
 unfold execOp
 simp only [ho,hx,Instr.loadAt,Instr.sureAddr,Sem.run_bind,Sem.run_pure,Result.andThen_ok,QdS hT g i v cs hB hv]
theorem QI(T:AggT P t n z)(g off:Nat)(cs vs:Array Value)(hB:Blk w g t' cs)(hle:off+n≤cs.size)(hv:cs.extract off (off+n)=vs)(x:Operand)(ho:o.op=.load t x)
 (hx:ev x=Pg g off):(execOp ev o).run P w=.ok (.value (.agg vs)) w:=by
 unfold execOp
 simp only [ho,hx,Instr.loadAt,Instr.sureAddr,Sem.run_bind,Sem.run_pure,Result.andThen_ok,kz T g off cs hB hle,hv]
theorem Qc(t:TypeId)(j:Nat)(p q:Value)(hf:∀ w,(Instr.fieldAt t p j).run P w=.ok q w)(x:Operand)(ho:o.op=.fieldAddr t x j)(hx:ev x=p):(execOp ev o).run P w=.ok (.value q) w:=by
 unfold execOp
 simp only [ho,hx,Sem.run_bind,hf,Result.andThen_ok,Sem.run_pure]
theorem KZ(t:TypeId)(p i q:Value)(hf:∀ w,(Instr.indexAt t p i).run P w=.ok q w)(x y:Operand)(ho:o.op=.indexAddr t x y)(hx:ev x=p)(hy:ev y=i):(execOp ev o).run P w=.ok (.value q) w:=by
 unfold execOp
 simp only [ho,hx,hy,Sem.run_bind,hf,Result.andThen_ok,Sem.run_pure]
theorem XW(t:TypeId)(p i q:Value)(hf:∀ w,(Instr.index t p i).run P w=.ok q w)(x y:Operand)(ho:o.op=.index t x y)(hx:ev x=p)(hy:ev y=i):(execOp ev o).run P w=.ok (.value q) w:=by
 unfold execOp
 simp only [ho,hx,hy,Sem.run_bind,hf,Result.andThen_ok,Sem.run_pure]
theorem QeX(b:BinOp)(t:TypeId)(p q r:Value)(hg:∀ x y w,(eqGuard b t x y p q).run P w=.ok () w)(hf:∀ w,(binOp b t p q).run P w=.ok r w)(x y:Operand)(ty:TypeId)(ho:o.op=.binOp b t x y ty)(hx:ev x=p)(hy:ev y=q):
 (execOp ev o).run P w=.ok (.value r) w:=by
 unfold execOp
 simp only [ho,hx,hy,Sem.run_bind,hg,hf,Result.andThen_ok,Sem.run_pure]
theorem Xs(v:Value)(parts:Array (Nat×Operand))(ho:o.op=.build t parts)(hr:∀ w,(Instr.build t (parts.map fun (i,x)=>(i,ev x))).run P w=.ok v w):(execOp ev o).run P w=.ok (.value v) w:=by
 unfold execOp
 simp only [ho,Sem.run_bind,hr,Result.andThen_ok,Sem.run_pure]
theorem Jy(t:TypeId)(p q:ByteArray)(hs:p.size+q.size≤9223372036854775807)(x y:Operand)(ty:TypeId)(ho:o.op=.binOp .add t x y ty)(hx:ev x=.string p)(hy:ev y=.string q):
 (execOp ev o).run P w=.ok (.value (.string (p++q))) w:=by
 unfold execOp
 have hg:∀ w,(eqGuard .add t x y (.string p) (.string q)).run P w=.ok () w:=fun w=>by unfold eqGuard;simp
 simp only [ho,hx,hy,Sem.run_bind,hg,binOp_string_add,run_string_add_sum w p q hs,Result.andThen_ok,Sem.run_pure]
theorem qz(t:TypeId)(hu:P.underlying t=some .string)(s:ByteArray)(l h:Int)(h0:0≤l)(h1:l≤h)(h2:h≤(s.size:Int))(x y z:Operand)(ho:o.op=.slice t x (some y) (some z) none)(hx:ev x=.string s)(hy:ev y=Ii l)(hz:ev z=Ii h):
 (execOp ev o).run P w=.ok (.value (.string (s.extract l.toNat h.toNat))) w:=by
 obtain ⟨m,rfl⟩:∃ m:Nat,h=m:=⟨h.toNat,by omega⟩
 obtain ⟨n,rfl⟩:∃ n:Nat,l=n:=⟨l.toNat,by omega⟩
 unfold execOp
 simp [ho,hx,hy,hz,Instr.sliceAt,Instr.slice,run_underlying hu,Instr.sliceBounds,run_sliceBound,show n≤m by omega,show m≤s.size by omega]
theorem Kn(t:TypeId)(hu:P.underlying t=some .string)(s:ByteArray)(l:Int)(h0:0≤l)(h2:l≤(s.size:Int))(x y:Operand)(ho:o.op=.slice t x (some y) none none)(hx:ev x=.string s)(hy:ev y=Ii l):
 (execOp ev o).run P w=.ok (.value (.string (s.extract l.toNat s.size))) w:=by
 unfold execOp
 simp [ho,hx,hy,Instr.sliceAt,Instr.slice,run_underlying hu,Instr.sliceBounds,run_sliceBound,h0,h2,go_sem]
theorem VD(t:TypeId)(hu:P.underlying t=some .string)(s:ByteArray)(h:Int)(h1:0≤h)(h2:h≤(s.size:Int))(x z:Operand)(ho:o.op=.slice t x none (some z) none)(hx:ev x=.string s)(hz:ev z=Ii h):
 (execOp ev o).run P w=.ok (.value (.string (s.extract 0 h.toNat))) w:=by
 unfold execOp
 simp [ho,hx,hz,Instr.sliceAt,Instr.slice,run_underlying hu,Instr.sliceBounds,run_sliceBound,h1,h2,go_sem]
theorem Vn{α:Type}{f:α→Value}(e:TypeId)(hu:P.underlying t=some (.array n e))(hs:ScT P e)(l:List α)(hl:l.length=n)(d:α)(k:Int)(h0:0≤k)(h1:k<n)(w:World):
 (Instr.index t (.agg (av f l)) (Ii k)).run P w=.ok (f (nt l k.toNat d)) w:=by
 have hb:=Vz (f:=f) (l:=l) d (i:=k.toNat) (by omega)
 simp [Instr.index,asIntOf,run_underlying hu,h0,h1,part,hb,hs.agg,hs.size]
theorem Xy(e:TypeId)(hu:P.underlying t=some (.array n e))(hz:∀ w,(sizeOf e).run P w=.ok 1 w)(g off:Nat)(k:Int)(h0:0≤k)(h1:k<n)(w:World):
 (Instr.indexAt t (Pg g off) (Ii k)).run P w=.ok (.pointer (some ⟨g,off+k.toNat,none⟩)) w:=by
 simp [Instr.indexAt,asIntOf,run_underlying hu,h0,h1,Instr.sureAddr,KK,hz]
end
def Sl(w:World)(v:Value)(xs:List Value):Prop:=
 (v=.slice none 0 0∧xs=[]) ∨ ∃ a cap,v=.slice (some a) xs.length cap∧xs.length≤cap∧cap≤maxLen ∧ ∀ i,i<xs.length→w.cell? (a.add i)=xs[i]?
section
variable {w w':World} {B g g':Nat} {e t:TypeId} {v:Value} {xs:List Value} {cs:Array Value}
theorem Sl.nil(w:World):Sl w (.slice none 0 0) []:=.inl ⟨rfl,rfl⟩
theorem Sl.below(h:Sl w v xs)(hb:Below w.heap.size w w'):Sl w' v xs:=by
  rcases h with h|⟨a,cap,rfl,h1,h2,h4⟩
  · exact .inl h
  · refine .inr ⟨a,cap,rfl,h1,h2,fun i hi=>?_⟩
    have h5:=h4 i hi
    rw [List.getElem?_eq_getElem hi] at h5 ⊢
    exact (hb.cell (World.block_lt_of_cell? _ _ h5)).trans h5
theorem Own.sl(h:Own w B e v xs):Sl w v xs:=by
  rcases h.form with ⟨rfl,rfl⟩|⟨g,cap,cur,rfl,hb,hh,hn,hm,hs,ht⟩
  · exact Sl.nil w
  · refine .inr ⟨⟨g,0,none⟩,cap,rfl,hn,hm,fun i hi=>?_⟩
    rw [KK,hh.cell,Nat.zero_add]
    have:(cur.toList.take xs.length)[i]?=xs[i]?:=by rw [ht]
    rw [List.getElem?_take,if_pos hi,Array.getElem?_toList] at this
    exact this
theorem Sl.shape(h:Sl w v xs):∃ A cap,v=.slice A xs.length cap:=by
  rcases h with ⟨rfl,rfl⟩|⟨a,cap,rfl,_⟩
  · exact ⟨_,_,rfl⟩
  · exact ⟨_,_,rfl⟩
theorem Own.one(h:Own w B e v xs):v.oneCell'=true:=by
 obtain ⟨A,c,hv⟩:=h.sl.shape
 rw [hv];rfl
theorem Sl.get{α:Type}{f:α→Value}{l:List α}(h:Sl w v (l.map f))(d:α){i:Int}(h0:0≤i)(h1:i<(l.length:Int)):∃ a cap,v=.slice (some a) l.length cap∧w.cell? (a.add i.toNat)=some (f (nt l i.toNat d)):=by
  have hi:i.toNat<l.length:=by omega
  rcases h with ⟨rfl,h⟩|⟨a,cap,rfl,h1,h2,h4⟩
  · simp at h;subst h;simp at hi
  · refine ⟨a,cap,by rw [List.length_map],?_⟩
    rw [h4 i.toNat (by simpa using hi)]
    unfold nt
    simp [List.getElem?_eq_getElem hi]
theorem Own.bex{B':Nat}(h:Own w B e v xs)(hx:Bex g B' w w')(hB:w.heap.size≤B')(hg:Blk w g t cs)(hne:t≠e):Own w' B e v xs:=h.move fun g' cs' _ hh=>hh.bex hx (by have:=hh.lt;omega) (by
 rintro rfl
 unfold Blk at hh hg
 rw [hh] at hg
 injection hg with hg
 injection hg with _ ht
 exact hne ht.symm)
end
section
variable {P:Program} {t e:TypeId} {w:World} {ops:Array Oper} {rest:List Oper} {o:Oper} {a:Act} {Q:Exit→Act→World→Prop} {ev:Operand→Value}
theorem qA(hu:P.underlying t=some (.slice e))(A:Option Addr)(n c:Nat)(v:Value)(hv:v=.slice A n c)(x:Operand)(ho:o.op=.call { callee:=.builtin .len,args:=#[x],argTypes:=#[t] })(hx:ev x=v):(execOp ev o).run P w=.ok (.value (Ii n)) w:=by
 subst hv
 have h:∀ ty,(Builtin.len_ #[t] ty #[.slice A n c]).run P w=.ok (goInt n) w:=fun ty=>by simp [Builtin.len_,run_underlying hu]
 unfold execOp
 simp [ho,hx,go_sem,h,goInt]
theorem XO(n c:Nat)(i:Int)(b:Addr)(v:Value)(hv:v=.slice (some b) n c)(h0:0≤i)(h1:i<(n:Int))(hu:P.underlying t=some (.slice e))(hz:ScT P e)(x y:Operand)(ho:o.op=.indexAddr t x y)(hx:ev x=v)(hy:ev y=Ii i):
 (execOp ev o).run P w=.ok (.value (.pointer (some (b.add i.toNat)))) w:=by
 subst hv
 unfold execOp
 simp [ho,hx,hy,Instr.indexAt,asIntOf,run_underlying hu,h0,h1,hz.size]
theorem ZB(hT:ScT P t)(b:Addr)(v:Value)(hc:w.cell? b=some v)(x:Operand)(ho:o.op=.load t x)(hx:ev x=.pointer (some b)):(execOp ev o).run P w=.ok (.value v) w:=by
 unfold execOp
 have hl:(loadVar t b).run P w=.ok v w:=by simp [loadVar,Sem.run_bind,hT.agg,run_load,hc]
 simp only [ho,hx,Instr.loadAt,Instr.sureAddr,Sem.run_bind,Sem.run_pure,Result.andThen_ok,hl]
theorem VA(T:ScT P e)(u:Value)(g:Nat)(hg:w.heap.size=g)(hgd:Region.wanted o (yielded ops a.tmps)=true)(x:Operand)(ho:o.op=.buildSlice t 1 #[(0,x)])(hx:a.eval x=u)
 (hr:∀ w,(Instr.buildSlice t 1 #[(0,u)]).run P w=.ok (.slice (some ⟨w.heap.size,0,none⟩) 1 1) (w.alloc (.cells #[u] e)))
 (h:∀ w1,Below g w w1→Blk w1 g e #[u]→w1.heap.size=g+1→wpList P ops Q rest (a.put o.dst (.slice (some ⟨g,0,none⟩) 1 1)) w1):wpList P ops Q (o::rest) a w:=by
 subst hg
 refine JZ hgd fun K hK=>?_
 have:=h (w.alloc (.cells #[u] e)) ((Below.refl _ _).alloc (Nat.le_refl _) _) (Blk.new _ _ _) (by simp)
 unfold Oper.wp execOp
 simp only [ho,Sem.run_bind,List.map_toArray,List.map_cons,List.map_nil,hx,hr,Result.andThen_ok,Sem.run_pure]
 exact hK _ _ this
end
section
variable {P:Program} {d:Nat} {t:TypeId} {xs ys:Array Value} {f:Field} {fs:List Field} {a b:Value} {r q:Bool} {w:World}
theorem QbJ(hn:(f.name=="_")=false)(ha:(part f.type xs f.offset).run P w=.ok a w)(hb:(part f.type ys f.offset).run P w=.ok b w)(he:(Op.equalIn d f.type a b).run P w=.ok r w):(Op.eqFields d xs ys [f]).run P w=.ok r w:=by
  have hn':f.name≠"_":=by simpa using hn
  unfold Op.eqFields
  simp only [if_pos hn',Sem.run_bind,ha,hb,he,Result.andThen_ok]
  cases r
  · simp
  · simp [Op.eqFields]
theorem jj(hn:(f.name=="_")=false)(ha:(part f.type xs f.offset).run P w=.ok a w)(hb:(part f.type ys f.offset).run P w=.ok b w)(he:(Op.equalIn d f.type a b).run P w=.ok r w)(hr:(Op.eqFields d xs ys fs).run P w=.ok q w):
    (Op.eqFields d xs ys (f::fs)).run P w=.ok (r&&q) w:=by
  have hn':f.name≠"_":=by simpa using hn
  rw [Op.eqFields]
  simp only [if_pos hn',Sem.run_bind,ha,hb,he,Result.andThen_ok]
  cases r
  · simp
  · simpa using hr
theorem QfD{fa:Array Field}(hu:P.underlying t=some (.struct fa))(hp:P.stoodInHeld t=false)(h:(Op.eqFields d xs ys fa.toList).run P w=.ok r w):(Op.equalIn (d+1) t (.agg xs) (.agg ys)).run P w=.ok r w:=by
 have hf:P.fieldsOf t=fa:=by simp [Program.fieldsOf,hu]
 rw [run_equalIn_struct (P:=P) w d t xs ys (by rw [hf];exact hu) hp,hf]
 exact h
theorem QbK{k:Nat}(h:∀ d w,(Op.equalIn (d+k) t (.agg xs) (.agg ys)).run P w=.ok r w)(hk:k≤9000)(w:World):(binOp .eql t (.agg xs) (.agg ys)).run P w=.ok (.bool r) w:=by
 have h1:=h (10000-k) w
 rw [show 10000-k+k=10000 by omega] at h1
 simp [binOp,Op.equal,Op.maxDepth,h1]
theorem jW(hg:P.eqGuardType P.depth t=false)(op:BinOp)(x y:Operand)(w:World):(eqGuard op t x y (.agg xs) (.agg ys)).run P w=.ok () w:=by
 have hp:∀ w,(program:Sem Program).run P w=.ok P w:=fun _=>rfl
 unfold eqGuard
 cases hop:(!(op matches .eql | .neq)) with
 |true=>simp only [if_true,Sem.run_pure]
 |false=>simp only [Bool.false_eq_true,if_false,Sem.run_bind,hp,Result.andThen_ok,hg,Bool.not_false,if_true,Sem.run_pure]
end
theorem Own.lit{w:World}{B g:Nat}{e:TypeId}{vs:List Value}{n:Nat}(hB:B≤g)(hh:Blk w g e vs.toArray)(hn:vs.length=n)(hm:n≤maxLen):Own w B e (.slice (some ⟨g,0,none⟩) n n) vs:=by
 subst hn
 have:=Own.of_blk (xs:=vs) hB hh (by simp) (by simpa using hm) (by simp)
 simpa using this
section
variable {P:Program} {t e:TypeId} {w:World} {ops:Array Oper} {rest:List Oper} {o:Oper} {a:Act} {Q:Exit→Act→World→Prop}
theorem XY(n:Nat)(us:Array Value)(g:Nat)(hg:w.heap.size=g)(hgd:Region.wanted o (yielded ops a.tmps)=true)(parts:Array (Nat×Operand))(ho:o.op=.buildSlice t n parts)
 (hr:∀ w,(Instr.buildSlice t n (parts.map fun (i,x)=>(i,a.eval x))).run P w=.ok (.slice (some ⟨w.heap.size,0,none⟩) n n) (w.alloc (.cells us e)))
 (h:∀ w1,Below g w w1→Blk w1 g e us→w1.heap.size=g+1→wpList P ops Q rest (a.put o.dst (.slice (some ⟨g,0,none⟩) n n)) w1):wpList P ops Q (o::rest) a w:=by
 subst hg
 refine JZ hgd fun K hK=>?_
 have:=h (w.alloc (.cells us e)) ((Below.refl _ _).alloc (Nat.le_refl _) _) (Blk.new _ _ _) (by simp)
 unfold Oper.wp execOp
 simp only [ho,Sem.run_bind,hr,Result.andThen_ok,Sem.run_pure]
 exact hK _ _ this
end
section
variable {P:Program} {ops:Array Oper} {o:Oper} {rest:List Oper} {Q:Act→Prop} {C:World→Prop} {ts:Array Value} {df:List Deferred} {d:Tmp}
structure Wq (P:Program) (ops:Array Oper) (C:World→Prop) (Q:Act→Prop) (l:List Oper) (a:Act):Prop where
 out:wpQuiet P ops C Q l a
theorem Xb{w:World}{id:Nat}{Q:Exit→Act→World→Prop}{a:Act}{l:List Oper}(hm:P.follows .mixedOrders=true)(hB:Region.lexB .any l.toArray=true)
 (h:Wq P l.toArray (fun w'=>∃ n:Up w,w'=n.world) (fun a'=>∀ w',(∃ n:Up w,w'=n.world)→Q .normal a' w') l a):(Code.region id l.toArray true).wp P Q a w:=Qaz hm hB h.out
theorem qg{a:Act}(h:Q a):Wq P ops C Q [] a:=⟨h⟩
theorem QY(v:Value)(hr:∀ w',C w'→(execOp (Act.eval ⟨ts,df⟩) o).run P w'=.ok (.value v) w')(hw:Region.wanted o (yielded ops ts)=true)(hd:o.dst=some d)(h:∀ ts',ts.setIfInBounds d v=ts'→Wq P ops C Q rest ⟨ts',df⟩):
    Wq P ops C Q (o::rest) ⟨ts,df⟩:=by
  refine ⟨?_⟩
  unfold wpQuiet
  rw [if_pos hw]
  refine ⟨v,fun w' hw'=>?_,?_⟩
  · unfold Oper.quietAt
    rw [hr w' hw']
    exact ⟨rfl,rfl⟩
  · rw [hd];exact (h _ rfl).out
theorem Qhb{o:Oper}(hw:Region.wanted o (yielded ops ts)=false)(hd:o.dst=some d)(h:∀ ts',ts.setIfInBounds d undef=ts'→Wq P ops C Q rest ⟨ts',df⟩):Wq P ops C Q (o::rest) ⟨ts,df⟩:=by
 refine ⟨?_⟩
 unfold wpQuiet
 rw [if_neg (by rw [hw];decide)]
 rw [hd];exact (h _ rfl).out
theorem xw(j:Nat)(b:Bool)(hg:o.guard=some (j,!b))(hy:yielded ops ts j=some b)(hd:o.dst=some d)(h:∀ ts',ts.setIfInBounds d undef=ts'→Wq P ops C Q rest ⟨ts',df⟩):Wq P ops C Q (o::rest) ⟨ts,df⟩:=
 Qhb (by unfold Region.wanted;rw [hg];simp [hy]) hd h
theorem zC(v:Value)(f:FuncId)(args:Array Value)(he:∀ w',(execOp (Act.eval ⟨ts,df⟩) o).run P w'=.ok (.enter f args) w')(hc:∀ w',C w'→Calls P f args w' fun e w''=>e=.returned v∧C w'')
    (hw:Region.wanted o (yielded ops ts)=true) (hd:o.dst=some d) (h:∀ ts',ts.setIfInBounds d v=ts'→Wq P ops C Q rest ⟨ts',df⟩):Wq P ops C Q (o::rest) ⟨ts,df⟩:=by
  refine ⟨?_⟩
  unfold wpQuiet
  rw [if_pos hw]
  refine ⟨v,fun w' hw'=>?_,?_⟩
  · unfold Oper.quietAt
    rw [he w']
    exact ⟨rfl,hc w' hw'⟩
  · rw [hd];exact (h _ rfl).out
theorem qZ{w w' w'':World}(hc:∃ n:Up w,w'=n.world)(h:w'=w''):∃ n:Up w,w''=n.world:=h▸hc
theorem Qo{ev:Operand→Value}{w:World}(x:Operand)(ho:o.op=.move x∨o.op=.assign x)(v:Value)(hx:ev x=v):(execOp ev o).run P w=.ok (.value v) w:=by
 unfold execOp
 rcases ho with ho|ho <;> simp only [ho,hx,Sem.run_pure]
end
end Go.Proofs.YtaipghemddjecaaGreatDoor
