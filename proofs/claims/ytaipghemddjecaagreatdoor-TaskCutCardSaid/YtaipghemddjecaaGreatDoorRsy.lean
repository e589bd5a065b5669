import Derived.Test.YtaipghemddjecaaGreatDoorRgy
namespace Go.Proofs.YtaipghemddjecaaGreatDoor
set_option maxHeartbeats 40000000
set_option maxRecDepth 100000
open Go.RowKit
set_option linter.unusedVariables false
set_option linter.unusedSimpArgs false
def SlT(w:World)(e:TypeId)(v:Value)(xs:List Value):Prop:=
  (v=.slice none 0 0∧xs=[]) ∨ ∃ g off cap cur,v=.slice (some ⟨g,off,none⟩) xs.length cap∧Blk w g e cur∧xs.length≤cap∧cap≤maxLen∧off+cap≤cur.size∧(cur.toList.drop off).take xs.length=xs
section
variable {w w':World} {B B' g:Nat} {e e' t:TypeId} {v:Value} {xs:List Value} {cs:Array Value} {α:Type} {f:α→Value} {L:List (List α)} {us:List Value}
theorem SlT.nil(w:World)(e:TypeId):SlT w e (.slice none 0 0) []:=.inl ⟨rfl,rfl⟩
theorem SlT.move(h:SlT w e v xs)(hk:∀ g cs,Blk w g e cs→Blk w' g e cs):SlT w' e v xs:=by
  rcases h with h|⟨g,off,cap,cur,h1,h2,h3⟩
  · exact .inl h
  · exact .inr ⟨g,off,cap,cur,h1,hk g cur h2,h3⟩
theorem SlT.below(h:SlT w e v xs)(hb:Below w.heap.size w w'):SlT w' e v xs:=h.move fun _ _ hh=>hh.below hb hh.lt
theorem SlT.bex(h:SlT w e v xs)(hx:Bex g B w w')(hB:w.heap.size≤B)(hg:Blk w g t cs)(hne:t≠e):SlT w' e v xs:=h.move fun g' cs' hh=>hh.bex hx (by have:=hh.lt;omega) (by
  rintro rfl
  unfold Blk at hh hg
  rw [hh] at hg
  injection hg with hg
  injection hg with _ ht
  exact hne ht.symm)
theorem SlT.off(h:SlT w e v xs)(ho:Off g w w')(hg:Blk w g t cs)(hne:t≠e):SlT w' e v xs:=h.move fun g' cs' hh=>hh.off ho (by
  rintro rfl
  unfold Blk at hh hg
  rw [hh] at hg
  injection hg with hg
  injection hg with _ ht
  exact hne ht.symm)
theorem Own.slT(h:Own w B e v xs):SlT w e v xs:=by
  rcases h.form with ⟨rfl,rfl⟩|⟨g,cap,cur,rfl,hb,hh,hn,hm,hs,ht⟩
  · exact SlT.nil w e
  · exact .inr ⟨g,0,cap,cur,rfl,hh,hn,hm,by omega,by rw [List.drop_zero];exact ht⟩
theorem SlT.sl(h:SlT w e v xs):Sl w v xs:=by
  rcases h with h|⟨g,off,cap,cur,rfl,hh,hn,hm,hs,ht⟩
  · exact .inl h
  · refine .inr ⟨⟨g,off,none⟩,cap,rfl,hn,hm,fun i hi=>?_⟩
    rw [KK,hh.cell]
    have:((cur.toList.drop off).take xs.length)[i]?=xs[i]?:=by rw [ht]
    rw [List.getElem?_take,if_pos hi,List.getElem?_drop,Array.getElem?_toList] at this
    exact this
theorem SlT.one(h:SlT w e v xs):v.oneCell'=true:=by
  obtain ⟨A,c,hv⟩:=h.sl.shape
  rw [hv];rfl
theorem SlT.shape(h:SlT w e v xs):∃ A cap,v=.slice A xs.length cap:=h.sl.shape
theorem SlT.slT(h:SlT w e v xs):SlT w e v xs:=h
end
section
variable {P:Program} {t e e':TypeId} {bytes n:Nat} {w:World} {ops:Array Oper} {rest:List Oper} {o o2:Oper} {a:Act} {Q:Exit→Act→World→Prop} {ev:Operand→Value} {z:Array Value}
theorem Zl(T:AggT P t n z)(us:Array Value)(g:Nat)(hg:w.heap.size=g)(hn:us.size=n)(hu1:∀ v∈us.toList,v.oneCell'=true)(hgd:Region.wanted o (yielded ops a.tmps)=true)(ho:o.op=.alloc t)
    (d:Nat) (hd:o.dst=some d) (x y:Operand) (ho2:o2.op=.store t x y) (hx:∀ u,(a.put (some d) u).eval x=u) (hy:∀ u,(a.put (some d) u).eval y=.agg us) (hgd2:o2.guard=none)
    (h:∀ w1,Below g w w1→Blk w1 g t us→w1.heap.size=g+1→wpList P ops Q rest ((a.put o.dst (.pointer (some ⟨g,0,none⟩))).put o2.dst undef) w1):wpList P ops Q (o::o2::rest) a w:=by
  refine Qq T g hg hgd ho fun w1 hb hB hs=>?_
  have hzs:=T.zsize
  refine Qg T g 0 z us us hB hn (by omega) hu1 (by
    apply Array.ext'
    rw [Kh _ _ _ (by simp [hn,hzs])]
    simp [hn,hzs]) (by unfold Region.wanted;rw [hgd2]) x y ho2 (by rw [hd];exact hx _) (by rw [hd];exact hy _) fun w2 hoff hblk=>?_
  exact h w2 (hoff.below hb (Nat.le_refl _)) hblk (by rw [hoff.size];exact hs)
theorem kQ(hu:P.underlying t=some (.slice e))(hz:∃ k,∀ w,(sizeOf e).run P w=.ok k w)(A:Option Addr)(m c:Nat)(v:Value)(hv:v=.slice A m c)(i:Int)(h0:0≤i)(h1:i≤(m:Int))(hmc:m≤c)(x y:Operand)(ho:o.op=.slice t x none (some y) none)(hx:ev x=v)(hy:ev y=.int .i64 i):
    (execOp ev o).run P w=.ok (.value (.slice A i.toNat c)) w:=by
  subst hv
  obtain ⟨k,hz⟩:=hz
  have e1:A.map (fun a=>a.add 0)=A:=by cases A <;> simp [Addr.add]
  unfold execOp
  simp [ho,hx,hy,Instr.sliceAt,Instr.slice,run_underlying hu,Instr.sliceBounds,run_sliceBound,h0,show i≤(c:Int) by omega,hz,e1]
end
end Go.Proofs.YtaipghemddjecaaGreatDoor
