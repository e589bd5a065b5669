import Derived.Test.YtaipghemddjecaaGreatDoorGwy
namespace Go.Proofs.YtaipghemddjecaaGreatDoor
set_option maxHeartbeats 40000000
set_option maxRecDepth 100000
open Go.RowKit
set_option linter.unusedVariables false
def OwnN(w:World)(B:Nat)(e:TypeId)(n:Nat)(v:Value)(len:Nat)(xs:List Value):Prop:=w.ownsRow B e n v len xs
section
variable {w w':World} {B B' g:Nat} {e t:TypeId} {n len:Nat} {v:Value} {xs:List Value} {cs:Array Value}
theorem OwnN.nil(w:World)(B:Nat)(e:TypeId)(n:Nat):OwnN w B e n (.slice none 0 0) 0 []:=World.ownsRow_nil _ _ _ _
theorem OwnN.move(h:OwnN w B e n v len xs)(hk:∀ g cs,B≤g→Blk w g e cs→Blk w' g e cs):OwnN w' B e n v len xs:=by
  obtain ⟨h1,h2⟩:=h
  refine ⟨h1,?_⟩
  rcases h2 with h2|⟨g,cap,cur,hv,hb,hh,hn,hm,hs,ht⟩
  · exact .inl h2
  · exact .inr ⟨g,cap,cur,hv,hb,hk g cur hb hh,hn,hm,hs,ht⟩
theorem OwnN.below(h:OwnN w B e n v len xs)(hb:Below w.heap.size w w'):OwnN w' B e n v len xs:=h.move fun _ _ _ hh=>hh.below hb hh.lt
theorem OwnN.mono(h:OwnN w B e n v len xs)(hB:B'≤B):OwnN w B' e n v len xs:=by
  obtain ⟨h1,h2⟩:=h
  refine ⟨h1,?_⟩
  rcases h2 with h2|⟨g,cap,cur,hv,hb,hh,hn,hm,hs,ht⟩
  · exact .inl h2
  · exact .inr ⟨g,cap,cur,hv,Nat.le_trans hB hb,hh,hn,hm,hs,ht⟩
theorem OwnN.off(h:OwnN w B e n v len xs)(ho:Off g w w')(hg:Blk w g t cs)(hne:t≠e):OwnN w' B e n v len xs:=h.move fun g' cs' _ hh=>hh.off ho (by
  rintro rfl
  unfold Blk at hh hg
  rw [hh] at hg;injection hg with hg;injection hg with _ ht;exact hne ht.symm)
theorem OwnN.shape(h:OwnN w B e n v len xs):∃ A cap,v=.slice A len cap:=by
  obtain ⟨_,h2⟩:=h
  rcases h2 with ⟨rfl,h0⟩|⟨g,cap,cur,rfl,_⟩
  · exact ⟨none,0,by rw [h0]⟩
  · exact ⟨_,_,rfl⟩
end
structure ElemN (P:Program) (t e:TypeId) (n bytes:Nat):Prop where
  und:P.underlying t=some (.slice e)
  info:∃ i z,P.info? e=some i∧i.zero=some z∧i.size=n∧i.bytes=bytes∧z.cells.size=n
  pos:0<n
section
variable {P:Program} {t e:TypeId} {n bytes len:Nat} {w:World} {ops:Array Oper} {rest:List Oper} {o:Oper} {a:Act} {Q:Exit→Act→World→Prop}
theorem Qfb(E:ElemN P t e n bytes)(B:Nat)(v:Value)(xs us:List Value)(g c:Nat)(hown:OwnN w B e n v len xs)(hg:Blk w g e us.toArray)(hu:us.length=n)(h1:∀ u∈us,u.oneCell'=true)(hlen:(len+1)*bytes≤140737488355328)(hl:len+1≤maxLen)(hB:B≤w.heap.size)
    (hgd:o.guard=none) (s x:Operand) (ho:o.op=.call { callee:=.builtin .append,args:=#[s,x],argTypes:=#[t,t] }) (hs:a.eval s=v) (hx:a.eval x=.slice (some ⟨g,0,none⟩) 1 c)
    (h:∀ v' w',OwnN w' B e n v' (len+1) (xs++us)→Below B w w'→(∀ g' t' cs,t'≠e→Blk w g' t' cs→Blk w' g' t' cs)→(∀ g' s p,Itr w g' s p→Itr w' g' s p)→wpList P ops Q rest (a.put o.dst v') w'):wpList P ops Q (o::rest) a w:=by
  obtain ⟨i,z,hi,hz,hz1,hz2,hzs⟩:=E.info
  refine wpList_append_own w hgd s x t ho B e i z n bytes E.und hi hz hz1 hz2 hzs E.pos v len xs hs hown ⟨g,0,none⟩ 1 c us hx (by rw [hu,Nat.one_mul]) (fun j y hj=>?_) h1 hl hlen hB ?_
  · rw [KK,hg.cell,Nat.zero_add];simpa using hj
  · intro v' w' h2 h3 _
    have hrow:∀ k,v.ownBlock=some k→B≤k:=fun k hk=>(World.ownsRow.lt hown k hk).1
    refine h v' w' h2 ((Below.refl _ _).grown h3 hB hrow) (fun g' t' cs hne hb=>?_) (fun g' s p hb=>?_)
    · refine (h3.block g' hb.lt (fun he=>?_)).trans hb
      obtain ⟨_,h4⟩:=hown
      rcases h4 with ⟨rfl,_⟩|⟨g2,cap,cur,rfl,_,hh,_⟩
      · simp [Value.ownBlock] at he
      · simp [Value.ownBlock] at he
        subst he
        unfold Blk at hb
        rw [hh] at hb;injection hb with hb;injection hb with _ ht;exact hne ht.symm
    · refine (h3.block g' hb.lt (fun he=>?_)).trans hb
      obtain ⟨_,h4⟩:=hown
      rcases h4 with ⟨rfl,_⟩|⟨g2,cap,cur,rfl,_,hh,_⟩
      · simp [Value.ownBlock] at he
      · simp [Value.ownBlock] at he
        subst he
        unfold Itr at hb
        rw [hh] at hb;cases hb
end
section
variable {P:Program} {t e:TypeId} {n len:Nat} {w:World} {o:Oper} {ev:Operand→Value}
theorem vS(m c:Nat)(i:Int)(b:Addr)(v:Value)(hv:v=.slice (some b) m c)(h0:0≤i)(h1:i<(m:Int))(hu:P.underlying t=some (.slice e))(hz:∀ w,(sizeOf e).run P w=.ok n w)(x y:Operand)(ho:o.op=.indexAddr t x y)(hx:ev x=v)(hy:ev y=.int .i64 i):
    (execOp ev o).run P w=.ok (.value (.pointer (some (b.add (i.toNat*n))))) w:=by
  subst hv
  unfold execOp
  simp [ho,hx,hy,Instr.indexAt,asIntOf,run_underlying hu,h0,h1,hz]
theorem ju{α:Type}{f:α→List Value}(hf:∀ x,(f x).length=n):∀ l:List α,(l.flatMap f).length=l.length*n:=by
  intro l
  induction l with
  |nil=>simp
  |cons x l ih=>rw [List.flatMap_cons,List.length_append,hf,ih,List.length_cons,Nat.succ_mul];omega
theorem vT{α:Type}{f:α→List Value}(hf:∀ x,(f x).length=n)(d:α):∀ (l:List α) (i:Nat),i<l.length→((l.flatMap f).drop (i*n)).take n=f (nt l i d):=by
  intro l
  induction l with
  |nil=>intro i h;simp at h
  |cons x l ih=>
    intro i h
    cases i with
    |zero=>
      rw [List.flatMap_cons,Nat.zero_mul,List.drop_zero]
      have:=hf x
      rw [List.take_append_of_le_length (by omega),List.take_of_length_le (by omega)];rfl
    |succ i=>
      have:=hf x
      rw [List.flatMap_cons,Nat.succ_mul,show i*n+n=(f x).length+i*n by omega,List.drop_append,List.drop_of_length_le (by omega),List.nil_append,show (f x).length+i*n-(f x).length=i*n by omega,ih i (by simpa using h)]
      rfl
theorem OwnN.get{α:Type}{B:Nat}{v:Value}{f:α→List Value}{l:List α}(hf:∀ x,(f x).length=n)(h:OwnN w B e n v l.length (l.flatMap f))(d:α){i:Int}(h0:0≤i)(h1:i<(l.length:Int)):
    ∃ g cap cur,v=.slice (some ⟨g,0,none⟩) l.length cap∧Blk w g e cur∧i.toNat*n+n≤cur.size∧cur.extract (i.toNat*n) (i.toNat*n+n)=(f (nt l i.toNat d)).toArray:=by
  obtain ⟨hl,h2⟩:=h
  have hi:i.toNat<l.length:=by omega
  have hlen:=ju hf l
  have hm:i.toNat*n+n≤l.length*n:=by rw [← Nat.succ_mul];exact Nat.mul_le_mul_right n hi
  rcases h2 with ⟨_,h0'⟩|⟨g,cap,cur,hv,hb,hh,hn,hcm,hs,ht⟩
  · omega
  · have hcs:l.length*n≤cur.size:=by rw [hs];exact Nat.mul_le_mul_right n hn
    refine ⟨g,cap,cur,hv,hh,by omega,?_⟩
    apply Array.toList_inj.mp
    have F:=vT hf d l i.toNat hi
    rw [← F]
    rw [Array.toList_extract,List.extract_eq_take_drop,Nat.add_sub_cancel_left]
    have:((l.flatMap f).drop (i.toNat*n)).take n=((cur.toList.take (l.length*n)).drop (i.toNat*n)).take n:=by
      rw [show cur.toList.take (l.length*n)=l.flatMap f from by first|exact ht|(rw [← hlen];simpa [hlen] using ht)]
    rw [this,List.drop_take,List.take_take,Nat.min_eq_left (by omega)]
end
section
variable {w w':World} {B B' g:Nat} {e t:TypeId} {n len:Nat} {v:Value} {xs:List Value} {cs:Array Value}
theorem OwnN.bex(h:OwnN w B e n v len xs)(hx:Bex g B' w w')(hB:w.heap.size≤B')(hg:Blk w g t cs)(hne:t≠e):OwnN w' B e n v len xs:=h.move fun g' cs' _ hh=>hh.bex hx (by have:=hh.lt;omega) (by
  rintro rfl
  unfold Blk at hh hg
  rw [hh] at hg;injection hg with hg;injection hg with _ ht;exact hne ht.symm)
theorem OwnN.one(h:OwnN w B e n v len xs):v.oneCell'=true:=by
  obtain ⟨A,c,hv⟩:=h.shape
  rw [hv];rfl
def SlN(w:World)(n:Nat)(v:Value)(len:Nat)(xs:List Value):Prop:=
  (v=.slice none 0 0∧len=0) ∨ ∃ a cap,v=.slice (some a) len cap∧len≤cap∧cap≤maxLen ∧ ∀ i,i<xs.length→w.cell? (a.add i)=xs[i]?
theorem SlN.nil(w:World)(n:Nat)(xs:List Value):SlN w n (.slice none 0 0) 0 xs:=.inl ⟨rfl,rfl⟩
theorem SlN.below(h:SlN w n v len xs)(hb:Below w.heap.size w w'):SlN w' n v len xs:=by
  rcases h with h|⟨a,cap,rfl,h1,h2,h4⟩
  · exact .inl h
  · refine .inr ⟨a,cap,rfl,h1,h2,fun i hi=>?_⟩
    have h5:=h4 i hi
    rw [List.getElem?_eq_getElem hi] at h5 ⊢
    exact (hb.cell (World.block_lt_of_cell? _ _ h5)).trans h5
theorem OwnN.sl(h:OwnN w B e n v len xs):SlN w n v len xs:=by
  obtain ⟨h1,h2⟩:=h
  rcases h2 with ⟨rfl,h0⟩|⟨g,cap,cur,rfl,hb,hh,hn,hm,hs,ht⟩
  · exact .inl ⟨rfl,h0⟩
  · refine .inr ⟨⟨g,0,none⟩,cap,rfl,hn,hm,fun i hi=>?_⟩
    rw [KK,show w.cell? ⟨g,0+i,none⟩=cur[0+i]? from Blk.cell hh _,Nat.zero_add]
    have:(cur.toList.take (len*n))[i]?=xs[i]?:=by rw [ht]
    rw [List.getElem?_take,if_pos (by omega),Array.getElem?_toList] at this
    exact this
theorem SlN.shape(h:SlN w n v len xs):∃ A cap,v=.slice A len cap:=by
  rcases h with ⟨rfl,h0⟩|⟨a,cap,rfl,_⟩
  · exact ⟨none,0,by rw [h0]⟩
  · exact ⟨_,_,rfl⟩
theorem Qeb(a:Addr)(m j:Nat):(a.add m).add j=a.add (m+j):=by
  unfold Addr.add
  by_cases hm:m=0 <;> by_cases hj:j=0 <;> simp [hm,hj]
  omega
theorem SlN.get{α:Type}{f:α→List Value}{l:List α}(hf:∀ x,(f x).length=n)(h:SlN w n v l.length (l.flatMap f))(d:α){i:Int}(h0:0≤i)(h1:i<(l.length:Int)):
    ∃ a cap,v=.slice (some a) l.length cap ∧ ∀ j,j<n→w.cell? ((a.add (i.toNat*n)).add j)=(f (nt l i.toNat d))[j]?:=by
  have hi:i.toNat<l.length:=by omega
  have hlen:=ju hf l
  rcases h with ⟨_,h0'⟩|⟨a,cap,hv,h3,h4,h5⟩
  · omega
  · refine ⟨a,cap,hv,fun j hj=>?_⟩
    have hm:i.toNat*n+n≤l.length*n:=by rw [← Nat.succ_mul];exact Nat.mul_le_mul_right n hi
    rw [Qeb,h5 _ (by omega),← vT hf d l i.toNat hi,List.getElem?_take,if_pos hj,List.getElem?_drop]
theorem OwnN.snoc{α:Type}{f:α→List Value}{l:List α}{x:α}(h:OwnN w B e n v (l.length+1) (l.flatMap f++f x)):OwnN w B e n v (l++[x]).length ((l++[x]).flatMap f):=by
  rw [List.length_append,List.flatMap_append]
  simpa using h
theorem OwnN.lit{α:Type}{f:α→List Value}(l:List α){m:Nat}(hf:∀ x,(f x).length=n)(hB:B≤g)(hh:Blk w g e (l.flatMap f).toArray)(hm:l.length=m)(hx:m≤maxLen):OwnN w B e n (.slice (some ⟨g,0,none⟩) m m) l.length (l.flatMap f):=by
  subst hm
  have hlen:=ju hf l
  exact ⟨hlen,.inr ⟨g,l.length,_,rfl,hB,hh,Nat.le_refl _,hx,by simpa using hlen,by rw [← hlen];exact List.take_length⟩⟩
end
section
variable {P:Program} {t e:TypeId} {n len:Nat} {z:Array Value} {w w':World} {ops:Array Oper} {rest:List Oper} {o:Oper} {a:Act} {Q:Exit→Act→World→Prop} {ev:Operand→Value}
theorem Qcm(T:AggT P t n z)(b:Addr)(us:List Value)(hu:us.length=n)(hc:∀ j,j<n→w.cell? (b.add j)=us[j]?)(x:Operand)(ho:o.op=.load t x)(hx:ev x=.pointer (some b)):(execOp ev o).run P w=.ok (.value (.agg us.toArray)) w:=by
  have hl:(loadCells b us.length).run P w=.ok us.toArray w:=
    run_loadCells_list (P:=P) w b us (fun j v hv=>by
      have hj:j<us.length:=(List.getElem?_eq_some_iff.mp hv).1
      rw [hc j (by omega),hv])
  have hr:(loadVar t b).run P w=.ok (.agg us.toArray) w:=by
    rw [hu] at hl
    simp [loadVar,Sem.run_bind,T.agg,T.size,hl]
  unfold execOp
  simp only [ho,hx,Instr.loadAt,Instr.sureAddr,Sem.run_bind,Sem.run_pure,Result.andThen_ok,hr]
theorem vR(n:Nat)(us:Array Value)(g:Nat)(hg:w.heap.size=g)(hgd:Region.wanted o (yielded ops a.tmps)=true)(parts:Array (Nat×Operand))(ho:o.op=.buildSlice t n parts)
    (hr:∀ w,(Instr.buildSlice t n (parts.map fun (i,x)=>(i,a.eval x))).run P w=.ok (.slice (some ⟨w.heap.size,0,none⟩) n n) (w.alloc (.cells us e)))
    (h:∀ w1,Below g w w1→Blk w1 g e us→w1.heap.size=g+1→wpList P ops Q rest (a.put o.dst (.slice (some ⟨g,0,none⟩) n n)) w1):wpList P ops Q (o::rest) a w:=XY n us g hg hgd parts ho hr h
end
end Go.Proofs.YtaipghemddjecaaGreatDoor
