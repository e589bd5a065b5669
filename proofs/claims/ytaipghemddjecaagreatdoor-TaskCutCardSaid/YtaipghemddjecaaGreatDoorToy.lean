import Derived.Test.YtaipghemddjecaaGreatDoorTmy
import Derived.Test.YtaipghemddjecaaGreatDoorShelfy
import Derived.Maps.RangeWalk
import Derived.Sort.KeysCollected
import Derived.Sort.OwnSorted
namespace Go.Proofs.YtaipghemddjecaaGreatDoor
set_option maxHeartbeats 40000000
set_option maxRecDepth 100000
open Go.RowKit
open Go.Maps (Keyed)
set_option linter.unusedVariables false
set_option linter.unusedSimpArgs false
def Kv(v:Value):Option (DataW Unit×List MemPlace):=match v with
  | .nilFunc=>some (.lit (.int .i64 (-1)),[])
  | .func (.func n) a b=>if a.size=0∧b.size=0 then some (.lit (.int .i64 (n:Int)),[]) else none
  |_=>none
theorem vg{v:Value}{y:DataW Unit×List MemPlace}(h:Kv v=some y):∃ c:Int,v=fnv c∧y.1=.lit (.int .i64 c):=by
  unfold Kv at h
  split at h
  · cases h;exact ⟨-1,rfl,rfl⟩
  · rename_i n a b
    split at h
    · rename_i hc
      obtain rfl:a=#[]:=Array.eq_empty_of_size_eq_zero hc.1
      obtain rfl:b=#[]:=Array.eq_empty_of_size_eq_zero hc.2
      cases h
      exact ⟨(n:Int),rfl,rfl⟩
    · cases h
  · cases h
def Jj(i:Nat):ByteArray:=match i with
  |0=>⟨#[99,97,115,116,108,101]⟩
  |1=>⟨#[101,112]⟩
  |2=>⟨#[109,97,120,115,111,108]⟩
  |3=>⟨#[114,101,116,114,111]⟩
  |4=>⟨#[115,101,116]⟩
  |5=>⟨#[115,105,100,101]⟩
  |_=>⟨#[116,114,121]⟩
def zT(i:Nat):Nat:=match i with
  |0=>41
  |1=>43
  |2=>38
  |3=>46
  |4=>35
  |5=>36
  |_=>34
def Kf(i:Nat):List UInt8:=(Jj i).data.toList
def Vw:List Nat:=[0,1,2,3,4,5,6]
def VL(L:List Nat):DataW Unit:=.map (L.map fun i=>(.string (Kf i),.lit (.int .i64 (zT i:Int))))
def vh:List Nat→List (List Nat)
  | []=>[[]]
  |x::l=>vh l++(vh l).map (x :: ·)
theorem QcN{L l:List Nat}(h:L.Sublist l):L∈vh l:=by
  induction h with
  |slnil=>simp [vh]
  |cons a _ ih=>unfold vh;exact List.mem_append_left _ ih
  |cons_cons a _ ih=>unfold vh;exact List.mem_append_right _ (List.mem_map.2 ⟨_,ih,rfl⟩)
def Opts(L:List Nat):Prop:=L.Sublist Vw
theorem Opts.erase{L:List Nat}(h:Opts L)(n:Nat):Opts (L.eraseIdx n):=(List.eraseIdx_sublist L n).trans h
theorem Opts.len{L:List Nat}(h:Opts L):L.length≤7:=h.length_le
theorem jD{p:List Nat→Bool}(hp:(vh Vw).all p=true){L:List Nat}(h:Opts L):p L=true:=List.all_eq_true.1 hp L (QcN h)
theorem Zx{L:List Nat}(h:Opts L)(hne:L≠[]):Jq (L.map Jj)=true:=by
  have:=jD (p:=fun L=>L.isEmpty||Jq (L.map Jj)) (by decide +kernel) h
  cases L with
  |nil=>exact absurd rfl hne
  |cons a l=>simpa using this
theorem vi{L:List Nat}:∀ i,i<(L.map Jj).length→(wd (L.map Jj) i).size≤1000:=by
  intro i hi
  have e:wd (L.map Jj) i=Jj (L[i]'(by simpa using hi)):=by unfold wd nt;rw [List.getD_eq_getElem?_getD];simp at hi;simp [hi]
  rw [e]
  unfold Jj
  split <;> decide
theorem vj{L:List Nat}(h:Opts L){i:Nat}(hi:i∈L):L.find? (fun j=>Kf j==Kf i)=some i:=by
  have:=jD (p:=fun L=>L.all fun i=>decide (L.find? (fun j=>Kf j==Kf i)=some i)) (by decide +kernel) h
  rw [List.all_eq_true] at this
  exact of_decide_eq_true (this i hi)
theorem Qba{L:List Nat}(h:Opts L){n:Nat}(hn:n<L.length):L.filter (fun j=>!(Kf j==Kf (L.getD n 0)))=L.eraseIdx n:=by
  have:=jD (p:=fun L=>(List.range L.length).all fun n=>decide (L.filter (fun j=>!(Kf j==Kf (L.getD n 0)))=L.eraseIdx n)) (by decide +kernel) h
  rw [List.all_eq_true] at this
  exact of_decide_eq_true (this n (List.mem_range.2 hn))
theorem vk{L:List Nat}(h:Opts L):(L.map Kf).Pairwise (fun a b=>leB a b=true):=by
  have A:(Vw.map Kf).Pairwise (fun a b=>leB a b=true):=by decide +kernel
  exact A.sublist (h.map Kf)
theorem QfW{L:List Nat}(h:Opts L){i:Nat}(hi:i∈L)(zd:DataW Unit):(VL L).atKey (.string (Kf i)) zd=.lit (.int .i64 (zT i:Int)):=by
  have F:=vj h hi
  unfold VL DataW.atKey
  simp only [List.find?_map]
  rw [show ((fun p:Lit×DataW Unit=>p.1.sameKey (.string (Kf i)))∘fun i=>(Lit.string (Kf i),DataW.lit (.int .i64 (zT i:Int))))=(fun j=>Kf j==Kf i) from rfl,F]
  rfl
theorem Qej{L:List Nat}(h:Opts L){n:Nat}(hn:n<L.length):(VL L).del (.string (Kf (L.getD n 0)))=VL (L.eraseIdx n):=by
  have F:=Qba h hn
  unfold VL DataW.del
  simp only [List.filter_map]
  rw [show ((fun p:Lit×DataW Unit=>!p.1.sameKey (.string (Kf (L.getD n 0))))∘fun i=>(Lit.string (Kf i),DataW.lit (.int .i64 (zT i:Int))))=(fun j=>!(Kf j==Kf (L.getD n 0))) from rfl,F]
theorem ka(L:List Nat):Maps.size (VL L)=L.length:=by simp [VL,Maps.size]
theorem QcO(L:List Nat):strKeys (VL L)=L.map Kf:=by simp [VL,strKeys,strOf]
theorem tk9:Tryz.prog.underlying 9=some .string:=by kernel_rfl
theorem QcP:Tryz.prog.underlying 51=some (.map 9 69):=by kernel_rfl
theorem QgM(i:Nat):keyOf Tryz.prog 9 (.string (Jj i))=some (.string (Kf i)):=by
  have hs:(Jj i).size≤maxLen:=by unfold Jj maxLen;split <;> decide
  exact WideMaps.keyOf_string_mk (P:=Tryz.prog) tk9 hs
theorem QfX(w:World):(zeroValue 69).run Tryz.prog w=.ok .nilFunc w:=by kernel_rfl
abbrev OMap(w:World)(b:Nat)(L:List Nat):Prop:=w.ownsMap Tryz.prog 9 Kv b 7 (VL L)
theorem Qek{w:World}{b:Nat}{L:List Nat}(h:OMap w b L)(hL:Opts L){i:Nat}(hi:i∈L):
    (Instr.lookup 51 (.map (some b)) (.string (Jj i)) false).run Tryz.prog w=.ok (.func (.func (zT i)) #[] #[]) w:=by
  obtain ⟨v,ps,h1,h2⟩:=World.ownsMap.lookup h (Maps.string_keyed tk9) QcP (QfX w) (show Kv .nilFunc=some (.lit (.int .i64 (-1)),[]) from rfl) (QgM i)
  rw [QfW hL hi] at h2
  obtain ⟨c,rfl,hc⟩:=vg h2
  simp only [DataW.lit.injEq,Lit.int.injEq,true_and] at hc
  rw [← hc] at h1
  exact h1
theorem OMap.move{w w':World}{b:Nat}{L:List Nat}(h:OMap w b L)(hb:w'.heap[b]?=w.heap[b]?):OMap w' b L:=by
  obtain ⟨es,clock,h1,h2⟩:=h
  exact ⟨es,clock,hb.trans h1,h2⟩
theorem OMap.lt{w:World}{b:Nat}{L:List Nat}(h:OMap w b L):b<w.heap.size:=World.ownsMap.lt h
theorem OMap.ne{w:World}{b g t:Nat}{L:List Nat}{cs:Array Value}(h:OMap w b L)(hb:Blk w g t cs):b≠g:=by
  rintro rfl
  obtain ⟨es,clock,h1,h2⟩:=h
  unfold Blk at hb
  rw [hb] at h1;cases h1
theorem qT{w w':World}{b r n cnt:Nat}{D:DataW Unit}{left:Lit→Bool}(h:w.ranges Tryz.prog 9 Kv b r n D left cnt)(hb:w'.heap[b]?=w.heap[b]?)(hr:w'.heap[r]?=w.heap[r]?):w'.ranges Tryz.prog 9 Kv b r n D left cnt:=by
  obtain ⟨es,clock,since,seen,c0,h1,h2,h3,h4,h5,h6⟩:=h
  exact ⟨es,clock,since,seen,c0,hb.trans h1,h2,h3,h4,hr.trans h5,h6⟩
structure Tw (g b B:Nat) (w w':World):Prop where
  os:w'.os=w.os
  tape:w'.tape=w.tape
  output:w'.output=w.output
  size:w.heap.size≤w'.heap.size
  block:∀ k,k<B→k≠g→k≠b→w'.heap[k]?=w.heap[k]?
section
variable {g b B B':Nat} {w w' w'':World}
theorem Tw.refl(g b B:Nat)(w:World):Tw g b B w w:=⟨rfl,rfl,rfl,Nat.le_refl _,fun _ _ _ _=>rfl⟩
theorem Tw.trans(h:Tw g b B w w')(h':Tw g b B' w' w'')(hB:B≤B'):Tw g b B w w'':=
  ⟨h'.os.trans h.os,h'.tape.trans h.tape,h'.output.trans h.output,Nat.le_trans h.size h'.size,fun k hk h1 h2=>(h'.block k (by omega) h1 h2).trans (h.block k hk h1 h2)⟩
theorem Tw.of_bex(h:Bex g B w w')(b:Nat):Tw g b B w w':=⟨h.os,h.tape,h.output,h.size,fun k hk h1 _=>h.block k hk h1⟩
theorem Tw.of_below(h:Below B w w')(g b:Nat):Tw g b B w w':=⟨h.os,h.tape,h.output,h.size,fun k hk _ _=>h.block k hk⟩
theorem Tw.of_grown{row:Option Nat}(h:w.grownBy w' row)(hB:B≤w.heap.size)(hr:∀ k,row=some k→k=b∨B≤k):Tw g b B w w':=
  ⟨h.os,h.tape,h.output,h.size,fun k hk h1 h2=>h.block k (by omega) (fun e=>by rcases hr k e.symm with q|q <;> omega)⟩
theorem Tw.of_off(h:Off g w w')(b B:Nat):Tw g b B w w':=⟨h.os,h.tape,h.output,Nat.le_of_eq h.size.symm,fun k _ h1 _=>h.block k h1⟩
theorem Tw.below(h:Tw g b B w w')(hg:B'≤g)(hb:B'≤b)(hB:B'≤B):Below B' w w':=⟨h.os,h.tape,h.output,h.size,fun k hk=>h.block k (by omega) (by omega) (by omega)⟩
end
theorem kb{w:World}{B:Nat}{v:Value}{ss:List (List UInt8)}(h:Own w B 9 v (ss.map encStr))(hne:ss≠[])(hl:ss.length≤7):
    Calls Tryz.prog 76 #[v] w fun e w'=>e=.returned (.tuple #[])∧Own w' B 9 v ((ss.mergeSort leB).map encStr)∧Below B w w':=by
  have hB0:B≤w.heap.size∨w.heap.size<B:=by omega
  rcases h.form with ⟨rfl,h0⟩|⟨g,cap,cur,rfl,hb,hh,hn,hm,hs,ht⟩
  · exact absurd (by simpa using h0) hne
  · rw [List.length_map] at hn ht ⊢
    refine (Tryz.slices_Sort_string g 0 cap ss w (Go.holds_of_block hh ht) hh.lt (by omega)).mono ?_
    rintro e w' ⟨rfl,n,os,rfl⟩
    have L:(ss.mergeSort leB).length=ss.length:=List.length_mergeSort ss
    refine ⟨rfl,?_,?_⟩
    · have O:=Go.ownsRow_sorted (n:=n) (os:=os) (ss:=ss) (ts:=ss.mergeSort leB) (base:=B) L hb hh hn hm (by rw [hs];omega)
      unfold Own
      rw [List.length_map,L]
      exact O
    · have G:=Go.grownBy_sorted (w:=w) (g:=g) (n:=n) (os:=os) (ss.mergeSort leB).toArray
      exact ⟨G.os,G.tape,G.output,G.size,fun k hk=>G.block k (by have:=hh.lt;omega) (fun e=>by injection e with e;omega)⟩
set_option maxHeartbeats 40000000
set_option maxRecDepth 100000
open Go.RowKit
open Go.Maps (Keyed)
set_option linter.unusedVariables false
set_option linter.unusedSimpArgs false
section
variable {H:Type} {P:Program} {w:World} {ops:Array Oper} {rest:List Oper} {o:Oper} {a:Act} {Q:Exit→Act→World→Prop}
theorem Qel(hg:o.guard=none)(t:TypeId)(hop:o.op=Op.makeMap t none)(b:Nat)(hb:w.heap.size=b)(k:TypeId)(R:Value→Option (DataW H×List MemPlace))
    (h:∀ w1,w1.ownsMap P k R b 0 (.map [])→Below b w w1→wpList P ops Q rest (a.put o.dst (.map (some b))) w1):wpList P ops Q (o::rest) a w:=by
  subst hb
  refine wpList_plain hg fun K' hK'=>?_
  have:=h (w.alloc (.map #[] 0)) (World.ownsMap_made w P k R) ((Below.refl _ _).alloc (Nat.le_refl _) _)
  unfold Oper.wp
  simp [execOp,hop,run_makeMap,Result.andThen]
  exact hK' _ _ this
theorem Qbb(hg:o.guard=none)(m x v:Operand)(t:TypeId)(hop:o.op=Op.insert t m x v)
    (k e:TypeId) (K:Keyed P k) (ht:P.underlying t=some (.map k e)) (R:Value→Option (DataW H×List MemPlace)) (b n:Nat) (D:DataW H)
    (hm:a.eval m=.map (some b)) (hown:w.ownsMap P k R b n D) (hn:n<maxLen) (key val:Value) (kl:Lit) (hx:a.eval x=key) (hv:a.eval v=val) (hkey:keyOf P k key=some kl)
    (d:DataW H) (ps:List MemPlace) (hval:R val=some (d,ps))
    (hK:∀ w',w'.ownsMap P k R b (n+1) (D.put kl d)→w.grownBy w' (some b)→wpList P ops Q rest (a.put o.dst undef) w'):
    wpList P ops Q (o::rest) a w:=by
  refine wpList_plain hg fun K' hK'=>?_
  obtain ⟨w',hrun,r1,r2⟩:=hown.update K ht hn hkey hval
  unfold Oper.wp
  simp [execOp,hop,hm,hx,hv,hrun,Result.andThen]
  exact hK' _ _ (hK w' r1 r2)
end
theorem kd{w0 w w':World}{B b:Nat}(h:Below B w0 w)(hg:w.grownBy w' (some b))(hb:B≤b)(hB:B≤w.heap.size):Below B w0 w':=
  h.trans ⟨hg.os,hg.tape,hg.output,hg.size,fun k hk=>hg.block k (by omega) (fun e=>by injection e with e;omega)⟩
theorem QcQ{w:World}{b n:Nat}{D:DataW Unit}(h:w.ownsMap Tryz.prog 9 Kv b n D)(hn:n=7)(hD:D=VL Vw):OMap w b Vw:=by subst hn hD;exact h
theorem KU(w:World):Calls Tryz.prog 17 #[] w fun e w'=>∃ b,e=.returned (.map (some b))∧w.heap.size≤b∧OMap w' b Vw∧Below w.heap.size w w':=by
 have HL:=hid (Below.refl w.heap.size w)
 go_enter Tryz.func17,Tryz.ntmps17
 have k1:=True.intro
 go_wp2_with (first
  |(refine Qel (H:=Unit) rfl 51 rfl w.heap.size rfl 9 Kv ?_;clear k1;intro w1 ho_ hb_;have OM:=hid ho_;have HL1:=hid (HL.out.trans hb_);have LT:=hid (Nat.le_refl w.heap.size);clear ho_ hb_)
  |(refine Qbb rfl _ _ _ _ rfl 9 69 (Maps.string_keyed tk9) QcP Kv w.heap.size _ _ rfl OM.out (by unfold maxLen;omega) _ _ _ rfl rfl (WideMaps.keyOf_string_mk (P:=Tryz.prog) tk9 (by unfold maxLen;decide)) _ [] rfl ?_;intro w2 ho_ hg_;replace HL1:=hid (kd HL1.out hg_ (Nat.le_refl _) (HL1.out.size));replace OM:=hid ho_;clear ho_ hg_))
 go_ret
 exact ⟨w.heap.size,rfl,Nat.le_refl _,QcQ OM.out rfl (by kernel_rfl),HL1.out⟩
end Go.Proofs.YtaipghemddjecaaGreatDoor
