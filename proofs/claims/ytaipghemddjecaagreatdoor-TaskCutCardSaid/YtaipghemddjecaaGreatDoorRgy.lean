import Derived.Test.YtaipghemddjecaaGreatDoorGwy
import Derived.Test.YtaipghemddjecaaGreatDoorSny
import Derived.Deep.RegionHeld3
namespace Go.Proofs.YtaipghemddjecaaGreatDoor
set_option maxHeartbeats 40000000
set_option maxRecDepth 100000
open Go.RowKit
set_option linter.unusedVariables false
set_option linter.unusedSimpArgs false
def fnv:Int→Value
  | .ofNat n=>.func (.func n) #[] #[]
  | .negSucc _=>.nilFunc
section
variable {P:Program} {ops:Array Oper} {Q:Exit→Act→World→Prop} {S:World→Prop} {nn:List Nat}
def VF(P:Program)(ops:Array Oper)(Q:Exit→Act→World→Prop)(S:World→Prop)(nn:List Nat):Nat→Array Bool→Act→World→Prop
  |0,listed,a,w=>Region.ready .any ops listed=[]∧Q .normal a w
  |fuel+1,listed,a,w=>
    (Region.ready .any ops listed=[]→Q .normal a w) ∧
    ∀ i∈Region.ready .any ops listed,wpOp P ops Q i (fun a' w'=>(S w→nn.contains i=false→S w')∧VF P ops Q S nn fuel (listed.setIfInBounds i true) a' w') a w
theorem VZ:∀ (fuel:Nat) (listed:Array Bool) (a:Act) (w:World),VF P ops Q S nn fuel listed a w→wpAny P .any ops Q fuel listed a w
  |0,_,_,_,h=>h
  |fuel+1,_,_,_,h=>⟨h.1,fun i hi=>wpOp_mono (fun a' w' h'=>VZ fuel _ a' w' h'.2) (h.2 i hi)⟩
def Qce(ops:Array Oper):Nat→Nat→Nat→Bool
  |0,_,_=>false
  |f+1,j,i=>match ops[j]? with|some o=>o.after.toList.any (fun e=>Region.binds .any e&&(e.on==i||Qce ops f e.on i))|none=>false
def Vq(ops:Array Oper)(L:Array Bool):Prop:=∀ k ok,ops[k]?=some ok→L.getD k false=true → ∀ e∈ok.after,Region.binds .any e=true→L.getD e.on false=true
theorem Ze{L:Array Bool}{i:Nat}(hC:Vq ops L)(hi:i∈Region.ready .any ops L):Vq ops (L.setIfInBounds i true):=by
  intro k ok hk hl e he hb
  obtain ⟨_,o,ho,hall⟩:=mem_ready.1 hi
  refine getD_set_true ?_
  by_cases hik:i=k
  · subst hik
    rw [hk] at ho
    cases ho
    exact hall e he hb
  · rw [getD_set_ne false hik] at hl
    exact hC k ok hk hl e he hb
theorem jp:Vq ops (Array.replicate ops.size false):=by
  intro k ok hk hl
  have hlt:k<ops.size:=by
    rcases Nat.lt_or_ge k ops.size with h|h
    · exact h
    · rw [Array.getElem?_eq_none h] at hk;cases hk
  simp [hlt] at hl
theorem jq{L:Array Bool}(hC:Vq ops L){i:Nat}:∀ (f j:Nat) (oj:Oper),ops[j]?=some oj→(∀ e∈oj.after,Region.binds .any e=true→L.getD e.on false=true)→Qce ops f j i=true→L.getD i false=true
  |0,_,_,_,_,h=>by cases h
  |f+1,j,oj,hj,hall,h=>by
    unfold Qce at h
    rw [hj] at h
    simp only [List.any_eq_true,Bool.and_eq_true,Bool.or_eq_true] at h
    obtain ⟨e,he,hb,h⟩:=h
    have h1:=hall e (by simpa using he) hb
    rcases h with h|h
    · rw [show i=e.on by simpa using (beq_iff_eq.1 h).symm];exact h1
    · cases ho:ops[e.on]? with
      |none=>
        cases f with
        |zero=>cases h
        |succ f=>unfold Qce at h;rw [ho] at h;cases h
      |some o=>exact jq hC f e.on o ho (hC e.on o ho h1) h
def vO(ops:Array Oper)(nn:List Nat)(i:Nat):Bool:=nn.all fun j=>j==i||match ops[j]? with|some o=>Qce ops ops.size j i|none=>true
theorem qj{i:Nat}{oi:Oper}{v:Value}(hi:ops[i]?=some oi)(hsel:∀ (j:Nat) (o:Oper) cs b,ops[j]?=some o→o.op≠.select cs b)
    (hQ:∀ c a w,Q (.panic c) (a.put oi.dst v) w→Q (.panic c) a w) (hl:vO ops nn i=true):
    ∀ (fuel:Nat) (listed:Array Bool) (a:Act) (w:World),Vq ops listed →
      (∀ j oj,ops[j]?=some oj→j≠i→listed.getD j true=false→(∀ e∈oj.after,Region.binds .any e=true→e.on≠i)→oi.apart ops oj=true) →
      i∈Region.ready .any ops listed→YieldsIf P ops S oi v a→S w →
      VF P ops Q S nn fuel (listed.setIfInBounds i true) (a.put oi.dst v) w→VF P ops Q S nn (fuel+1) listed a w:=by
  intro fuel
  induction fuel with
  |zero=>
    intro listed a w _ _ hr hy hS H
    refine ⟨fun h=>(by rw [h] at hr;cases hr),fun j hj=>?_⟩
    by_cases hji:j=i
    · subst hji;exact hy.wpOp hi hS ⟨fun _ _=>hS,H⟩
    · have:=ready_mono hj hji
      rw [H.1] at this
      cases this
  |succ fuel ih=>
    intro listed a w hC hfree hr hy hS H
    refine ⟨fun h=>(by rw [h] at hr;cases hr),fun j hj=>?_⟩
    by_cases hji:j=i
    · subst hji;exact hy.wpOp hi hS ⟨fun _ _=>hS,H⟩
    · have h1:=H.2 j (ready_mono hj hji)
      obtain ⟨hjun,oj,hoj,hall⟩:=mem_ready.1 hj
      have hnot:∀ e∈oj.after,Region.binds .any e=true→e.on≠i:=fun e he hb heq=>by
        have h1:=hall e he hb
        have h0:=(mem_ready.1 hr).1
        rw [heq] at h1
        rcases Nat.lt_or_ge i listed.size with h'|h'
        · simp [h'] at h0 h1;rw [h0] at h1;cases h1
        · simp [Array.getElem?_eq_none h'] at h1
      have hnj:nn.contains j=false:=by
        cases hc:nn.contains j with
        |false=>rfl
        |true=>
          exfalso
          unfold vO at hl
          rw [List.all_eq_true] at hl
          have h5:=hl j (by simpa using hc)
          rw [hoj,Bool.or_eq_true] at h5
          rcases h5 with h5|h5
          · exact hji (by simpa using h5)
          · have h6:=jq hC ops.size j oj hoj hall h5
            have h0:=(mem_ready.1 hr).1
            rcases Nat.lt_or_ge i listed.size with h'|h'
            · simp [h'] at h0 h6;rw [h0] at h6;cases h6
            · simp [Array.getElem?_eq_none h'] at h6
      have h2:=wpOp_putIf hoj (hfree j oj hoj hji hjun hnot) (fun cs b=>hsel i oi cs b hi) (fun cs b=>hsel j oj cs b hoj) hQ hy h1
      have hfree':∀ k ok,ops[k]?=some ok→k≠i→(listed.setIfInBounds j true).getD k true=false →
          (∀ e∈ok.after,Region.binds .any e=true→e.on≠i)→oi.apart ops ok=true:=fun k ok hk hki hun hno=>by
        refine hfree k ok hk hki ?_ hno
        by_cases hjk:j=k
        · subst hjk;exact hjun
        · rw [getD_set_ne true hjk] at hun;exact hun
      refine wpOp_mono (fun a' w' h3=>⟨fun _ _=>h3.2.1 hS hnj,ih (listed.setIfInBounds j true) a' w' (Ze hC hj) hfree' (ready_mono hr (Ne.symm hji)) h3.1 (h3.2.1 hS hnj) ?_⟩) h2
      rw [Array.setIfInBounds_comm _ _ hji]
      exact h3.2.2
theorem qS{i:Nat}{oi:Oper}{v:Value}(hi:ops[i]?=some oi)(hsel:∀ (j:Nat) (o:Oper) cs b,ops[j]?=some o→o.op≠.select cs b)
    (hQ:∀ c a w,Q (.panic c) (a.put oi.dst v) w→Q (.panic c) a w):
    ∀ (fuel:Nat) (listed:Array Bool) (a:Act) (w:World),
      (∀ j oj,ops[j]?=some oj→j≠i→listed.getD j true=false→(∀ e∈oj.after,Region.binds .any e=true→e.on≠i)→oi.apart ops oj=true) →
      i∈Region.ready .any ops listed→YieldsIf P ops (fun _=>True) oi v a→
      VF P ops Q S nn fuel (listed.setIfInBounds i true) (a.put oi.dst v) w→VF P ops Q S nn (fuel+1) listed a w:=by
  intro fuel
  induction fuel with
  |zero=>
    intro listed a w _ hr hy H
    refine ⟨fun h=>(by rw [h] at hr;cases hr),fun j hj=>?_⟩
    by_cases hji:j=i
    · subst hji;exact hy.wpOp hi trivial ⟨fun h0 _=>h0,H⟩
    · have:=ready_mono hj hji
      rw [H.1] at this
      cases this
  |succ fuel ih=>
    intro listed a w hfree hr hy H
    refine ⟨fun h=>(by rw [h] at hr;cases hr),fun j hj=>?_⟩
    by_cases hji:j=i
    · subst hji;exact hy.wpOp hi trivial ⟨fun h0 _=>h0,H⟩
    · have h1:=H.2 j (ready_mono hj hji)
      obtain ⟨hjun,oj,hoj,hall⟩:=mem_ready.1 hj
      have hnot:∀ e∈oj.after,Region.binds .any e=true→e.on≠i:=fun e he hb heq=>by
        have h1:=hall e he hb
        have h0:=(mem_ready.1 hr).1
        rw [heq] at h1
        rcases Nat.lt_or_ge i listed.size with h'|h'
        · simp [h'] at h0 h1;rw [h0] at h1;cases h1
        · simp [Array.getElem?_eq_none h'] at h1
      have h2:=wpOp_putIf hoj (hfree j oj hoj hji hjun hnot) (fun cs b=>hsel i oi cs b hi) (fun cs b=>hsel j oj cs b hoj) hQ hy h1
      have hfree':∀ k ok,ops[k]?=some ok→k≠i→(listed.setIfInBounds j true).getD k true=false →
          (∀ e∈ok.after,Region.binds .any e=true→e.on≠i)→oi.apart ops ok=true:=fun k ok hk hki hun hno=>by
        refine hfree k ok hk hki ?_ hno
        by_cases hjk:j=k
        · subst hjk;exact hjun
        · rw [getD_set_ne true hjk] at hun;exact hun
      refine wpOp_mono (fun a' w' h3=>⟨h3.2.1,ih (listed.setIfInBounds j true) a' w' hfree' (ready_mono hr (Ne.symm hji)) h3.1 ?_⟩) h2
      rw [Array.setIfInBounds_comm _ _ hji]
      exact h3.2.2
def KS(ops:Array Oper)(nn:List Nat):List (Nat×Nat)→Array Bool→Bool
  | [],L=>(Region.ready .any ops L).isEmpty
  |(i,1)::r,L=>Region.free .any ops L i&&(Region.ready .any ops L).contains i&&vO ops nn i&&KS ops nn r (L.setIfInBounds i true)
  |(i,2)::r,L=>Region.free .any ops L i&&(Region.ready .any ops L).contains i&&KS ops nn r (L.setIfInBounds i true)
  |(i,_)::r,L=>(match Region.ready .any ops L with | [j]=>j==i|_=>false)&&KS ops nn r (L.setIfInBounds i true)
def jr(P:Program)(ops:Array Oper)(Q:Exit→Act→World→Prop)(S:World→Prop)(nn:List Nat):List (Nat×Nat)→Act→World→Prop
  | [],a,w=>Q .normal a w
  |(i,1)::r,a,w=>S w ∧ ∃ o v,ops[i]?=some o∧YieldsIf P ops S o v a∧jr P ops Q S nn r (a.put o.dst v) w
  |(i,2)::r,a,w=>∃ o v,ops[i]?=some o∧YieldsIf P ops (fun _=>True) o v a∧jr P ops Q S nn r (a.put o.dst v) w
  |(i,_)::r,a,w=>wpOp P ops Q i (fun a' w'=>(nn.contains i=false→S w')∧jr P ops Q S nn r a' w') a w
theorem ze{L:Array Bool}{i:Nat}(hr:(match Region.ready .any ops L with | [j]=>j==i|_=>false)=true):Region.ready .any ops L=[i]:=by
  revert hr
  cases Region.ready .any ops L with
  |nil=>simp
  |cons j t=>
    cases t with
    |nil=>simp
    |cons k t=>simp
theorem Vd(hs:Region.noSelect ops=true)(hQ:∀ c a w,¬ Q (.panic c) a w):∀ (r:List (Nat×Nat)) (L:Array Bool) (a:Act) (w:World),Vq ops L→KS ops nn r L=true→jr P ops Q S nn r a w→VF P ops Q S nn r.length L a w
  | [],L,a,w,hC,hB,h=>⟨by simpa [KS] using hB,h⟩
  |(i,1)::r,L,a,w,hC,hB,h=>by
    simp only [KS,Bool.and_eq_true] at hB
    obtain ⟨⟨⟨hf,hr⟩,hl⟩,hB⟩:=hB
    obtain ⟨hS,o,v,ho,hy,h⟩:=h
    exact qj ho (Region.noSelect_spec hs) (fun c a w h0=>absurd h0 (hQ c _ w)) hl r.length L a w hC (Region.free_spec ho hf) (by simpa using hr) hy hS (Vd hs hQ r _ _ _ (Ze hC (by simpa using hr)) hB h)
  |(i,2)::r,L,a,w,hC,hB,h=>by
    simp only [KS,Bool.and_eq_true] at hB
    obtain ⟨⟨hf,hr⟩,hB⟩:=hB
    obtain ⟨o,v,ho,hy,h⟩:=h
    exact qS ho (Region.noSelect_spec hs) (fun c a w h0=>absurd h0 (hQ c _ w)) r.length L a w (Region.free_spec ho hf) (by simpa using hr) hy (Vd hs hQ r _ _ _ (Ze hC (by simpa using hr)) hB h)
  |(i,0)::r,L,a,w,hC,hB,h=>by
    simp only [KS,Bool.and_eq_true] at hB
    obtain ⟨hr,hB⟩:=hB
    have hr':=ze hr
    refine ⟨fun h0=>(by rw [hr'] at h0;cases h0),fun j hj=>?_⟩
    have hj0:=hj
    rw [hr'] at hj
    obtain rfl:j=i:=by simpa using hj
    exact wpOp_mono (fun a' w' h'=>⟨fun _=>h'.1,Vd hs hQ r _ _ _ (Ze hC hj0) hB h'.2⟩) h
  |(i,n+3)::r,L,a,w,hC,hB,h=>by
    simp only [KS,Bool.and_eq_true] at hB
    obtain ⟨hr,hB⟩:=hB
    have hr':=ze hr
    refine ⟨fun h0=>(by rw [hr'] at h0;cases h0),fun j hj=>?_⟩
    have hj0:=hj
    rw [hr'] at hj
    obtain rfl:j=i:=by simpa using hj
    exact wpOp_mono (fun a' w' h'=>⟨fun _=>h'.1,Vd hs hQ r _ _ _ (Ze hC hj0) hB h'.2⟩) h
inductive Tr where
  |nil
  |take (i:Nat) (r:Tr)
  |pure (i:Nat) (r:Tr)
  |act (i:Nat) (r:Tr)
  |f2 (i:Nat) (A:Tr) (j:Nat) (B:Tr)
  |f3 (i:Nat) (A:Tr) (j:Nat) (B:Tr) (k:Nat) (C:Tr)
def Tr.len:Tr→Nat
  | .nil=>0
  | .take _ r=>r.len+1
  | .pure _ r=>r.len+1
  | .act _ r=>r.len+1
  | .f2 _ A _ _=>A.len+1
  | .f3 _ A _ _ _ _=>A.len+1
def XJ(ops:Array Oper)(nn:List Nat):Tr→Array Bool→Bool
  | .nil,L=>(Region.ready .any ops L).isEmpty
  | .take i r,L=>Region.free .any ops L i&&(Region.ready .any ops L).contains i&&vO ops nn i&&XJ ops nn r (L.setIfInBounds i true)
  | .pure i r,L=>Region.free .any ops L i&&(Region.ready .any ops L).contains i&&XJ ops nn r (L.setIfInBounds i true)
  | .act i r,L=>decide (Region.ready .any ops L=[i])&&XJ ops nn r (L.setIfInBounds i true)
  | .f2 i A j B,L=>decide (Region.ready .any ops L=[i,j])&&XJ ops nn A (L.setIfInBounds i true)&&XJ ops nn B (L.setIfInBounds j true)&&decide (B.len=A.len)
  | .f3 i A j B k C,L=>decide (Region.ready .any ops L=[i,j,k])&&XJ ops nn A (L.setIfInBounds i true)&&XJ ops nn B (L.setIfInBounds j true)&&XJ ops nn C (L.setIfInBounds k true)&&decide (B.len=A.len)&&decide (C.len=A.len)
def wpT(P:Program)(ops:Array Oper)(Q:Exit→Act→World→Prop)(S:World→Prop)(nn:List Nat):Tr→Act→World→Prop
  | .nil,a,w=>Q .normal a w
  | .take i r,a,w=>S w ∧ ∃ o v,ops[i]?=some o∧YieldsIf P ops S o v a∧wpT P ops Q S nn r (a.put o.dst v) w
  | .pure i r,a,w=>∃ o v,ops[i]?=some o∧YieldsIf P ops (fun _=>True) o v a∧wpT P ops Q S nn r (a.put o.dst v) w
  | .act i r,a,w=>wpOp P ops Q i (fun a' w'=>(nn.contains i=false→S w')∧wpT P ops Q S nn r a' w') a w
  | .f2 i A j B,a,w=>wpOp P ops Q i (fun a' w'=>(nn.contains i=false→S w')∧wpT P ops Q S nn A a' w') a w∧wpOp P ops Q j (fun a' w'=>(nn.contains j=false→S w')∧wpT P ops Q S nn B a' w') a w
  | .f3 i A j B k C,a,w=>wpOp P ops Q i (fun a' w'=>(nn.contains i=false→S w')∧wpT P ops Q S nn A a' w') a w∧wpOp P ops Q j (fun a' w'=>(nn.contains j=false→S w')∧wpT P ops Q S nn B a' w') a w ∧
      wpOp P ops Q k (fun a' w'=>(nn.contains k=false→S w')∧wpT P ops Q S nn C a' w') a w
theorem Xf(hs:Region.noSelect ops=true)(hQ:∀ c a w,¬ Q (.panic c) a w):∀ (r:Tr) (L:Array Bool) (a:Act) (w:World),Vq ops L→XJ ops nn r L=true→wpT P ops Q S nn r a w→VF P ops Q S nn r.len L a w
  | .nil,L,a,w,hC,hB,h=>⟨by simpa [XJ] using hB,h⟩
  | .take i r,L,a,w,hC,hB,h=>by
    simp only [XJ,Bool.and_eq_true] at hB
    obtain ⟨⟨⟨hf,hr⟩,hl⟩,hB⟩:=hB
    obtain ⟨hS,o,v,ho,hy,h⟩:=h
    exact qj ho (Region.noSelect_spec hs) (fun c a w h0=>absurd h0 (hQ c _ w)) hl r.len L a w hC (Region.free_spec ho hf) (by simpa using hr) hy hS (Xf hs hQ r _ _ _ (Ze hC (by simpa using hr)) hB h)
  | .pure i r,L,a,w,hC,hB,h=>by
    simp only [XJ,Bool.and_eq_true] at hB
    obtain ⟨⟨hf,hr⟩,hB⟩:=hB
    obtain ⟨o,v,ho,hy,h⟩:=h
    exact qS ho (Region.noSelect_spec hs) (fun c a w h0=>absurd h0 (hQ c _ w)) r.len L a w (Region.free_spec ho hf) (by simpa using hr) hy (Xf hs hQ r _ _ _ (Ze hC (by simpa using hr)) hB h)
  | .act i r,L,a,w,hC,hB,h=>by
    simp only [XJ,Bool.and_eq_true,decide_eq_true_eq] at hB
    obtain ⟨hr,hB⟩:=hB
    refine ⟨fun h0=>(by rw [hr] at h0;cases h0),fun q hq=>?_⟩
    have hq0:=hq
    rw [hr] at hq
    obtain rfl:q=i:=by simpa using hq
    exact wpOp_mono (fun a' w' h'=>⟨fun _=>h'.1,Xf hs hQ r _ _ _ (Ze hC hq0) hB h'.2⟩) h
  | .f2 i A j B,L,a,w,hC,hB,h=>by
    simp only [XJ,Bool.and_eq_true,decide_eq_true_eq] at hB
    obtain ⟨⟨⟨hr,hA⟩,hB⟩,hl⟩:=hB
    refine ⟨fun h0=>(by rw [hr] at h0;cases h0),fun q hq=>?_⟩
    have hq0:=hq
    rw [hr] at hq
    have hq':q=i∨q=j:=by simpa using hq
    rcases hq' with rfl|rfl
    · exact wpOp_mono (fun a' w' h'=>⟨fun _=>h'.1,Xf hs hQ A _ _ _ (Ze hC hq0) hA h'.2⟩) h.1
    · exact wpOp_mono (fun a' w' h'=>⟨fun _=>h'.1,by rw [← hl];exact Xf hs hQ B _ _ _ (Ze hC hq0) hB h'.2⟩) h.2
  | .f3 i A j B k C,L,a,w,hC,hB,h=>by
    simp only [XJ,Bool.and_eq_true,decide_eq_true_eq] at hB
    obtain ⟨⟨⟨⟨⟨hr,hA⟩,hB⟩,hD⟩,hl⟩,hl2⟩:=hB
    refine ⟨fun h0=>(by rw [hr] at h0;cases h0),fun q hq=>?_⟩
    have hq0:=hq
    rw [hr] at hq
    have hq':q=i∨q=j∨q=k:=by simpa using hq
    rcases hq' with rfl|rfl|rfl
    · exact wpOp_mono (fun a' w' h'=>⟨fun _=>h'.1,Xf hs hQ A _ _ _ (Ze hC hq0) hA h'.2⟩) h.1
    · exact wpOp_mono (fun a' w' h'=>⟨fun _=>h'.1,by rw [← hl];exact Xf hs hQ B _ _ _ (Ze hC hq0) hB h'.2⟩) h.2.1
    · exact wpOp_mono (fun a' w' h'=>⟨fun _=>h'.1,by rw [← hl2];exact Xf hs hQ C _ _ _ (Ze hC hq0) hD h'.2⟩) h.2.2
structure Sq (P:Program) (ops:Array Oper) (Q:Exit→Act→World→Prop) (S:World→Prop) (nn:List Nat) (r:List (Nat×Nat)) (a:Act) (w:World):Prop where
  out:jr P ops (NoPanic Q) S nn r a w
theorem js(w:World):Below w.heap.size w w.drew:=(Below.refl _ _).drew
theorem QL{w:World}{id:Nat}{a:Act}{l:List Oper}(S:World→Prop)(nn:List Nat)(r:List (Nat×Nat))(hm:P.follows .mixedOrders=true)(hs:Region.noSelect l.toArray=true)(hB:KS l.toArray nn r (Array.replicate l.length false)=true)(hl:r.length=l.length)
    (h:∀ w1,Below w.heap.size w w1→Sq P l.toArray Q S nn r a w1):(Code.region id l.toArray true).wp P Q a w:=by
  refine wp_region_noPanic (wp_region_any hm ?_)
  have h1:=(h w.drew (js w)).out
  have:=Vd (Q:=NoPanic Q) hs (fun c a w h=>h) r _ a w.drew (by have:=jp (ops:=l.toArray);simpa using this) hB h1
  rw [hl] at this
  simpa using VZ _ _ _ _ this
theorem JH{a:Act}{w:World}(h:Q .normal a w):Sq P ops Q S nn [] a w:=⟨h⟩
variable {ts:Array Value} {df:List Deferred} {d:Tmp} {i:Nat} {o:Oper} {r:List (Nat×Nat)} {w:World}
theorem QA(v:Value)(hS:S w)(hi:ops[i]?=some o)(hr:∀ w',S w'→(execOp (Act.eval ⟨ts,df⟩) o).run P w'=.ok (.value v) w')(hw:Region.wanted o (yielded ops ts)=true)(hd:o.dst=some d)(h:∀ ts',ts.setIfInBounds d v=ts'→Sq P ops Q S nn r ⟨ts',df⟩ w):
    Sq P ops Q S nn ((i,1)::r) ⟨ts,df⟩ w:=
  ⟨⟨hS,o,v,hi,.inl ⟨hw,hr⟩,by rw [hd];exact (h _ rfl).out⟩⟩
theorem Qe(v:Value)(hi:ops[i]?=some o)(hr:∀ w',(execOp (Act.eval ⟨ts,df⟩) o).run P w'=.ok (.value v) w')(hw:Region.wanted o (yielded ops ts)=true)(hd:o.dst=some d)(h:∀ ts',ts.setIfInBounds d v=ts'→Sq P ops Q S nn r ⟨ts',df⟩ w):
    Sq P ops Q S nn ((i,2)::r) ⟨ts,df⟩ w:=
  ⟨⟨o,v,hi,.inl ⟨hw,fun w' _=>hr w'⟩,by rw [hd];exact (h _ rfl).out⟩⟩
theorem QgC(hi:ops[i]?=some o)(hw:Region.wanted o (yielded ops ts)=false)(hd:o.dst=some d)(h:∀ ts',ts.setIfInBounds d undef=ts'→Sq P ops Q S nn r ⟨ts',df⟩ w):
    Sq P ops Q S nn ((i,2)::r) ⟨ts,df⟩ w:=
  ⟨⟨o,undef,hi,.inr ⟨hw,rfl⟩,by rw [hd];exact (h _ rfl).out⟩⟩
theorem JU(j:Nat)(b:Bool)(hi:ops[i]?=some o)(hg:o.guard=some (j,!b))(hy:yielded ops ts j=some b)(hd:o.dst=some d)(h:∀ ts',ts.setIfInBounds d undef=ts'→Sq P ops Q S nn r ⟨ts',df⟩ w):Sq P ops Q S nn ((i,2)::r) ⟨ts,df⟩ w:=
  QgC hi (by unfold Region.wanted;rw [hg];simp [hy]) hd h
def QaG(K:Act→World→Prop):Exit→Act→World→Prop:=fun e a w=>e=.normal∧K a w
structure St (P:Program) (ops:Array Oper) (Q:Exit→Act→World→Prop) (S:World→Prop) (nn:List Nat) (r:Tr) (a:Act) (w:World):Prop where
  out:wpT P ops (NoPanic Q) S nn r a w
theorem qC{w:World}{id:Nat}{a:Act}{l:List Oper}(S:World→Prop)(nn:List Nat)(r:Tr)(hm:P.follows .mixedOrders=true)(hs:Region.noSelect l.toArray=true)(hB:XJ l.toArray nn r (Array.replicate l.length false)=true)(hl:r.len=l.length)
    (h:∀ w1,Below w.heap.size w w1→St P l.toArray Q S nn r a w1):(Code.region id l.toArray true).wp P Q a w:=by
  refine wp_region_noPanic (wp_region_any hm ?_)
  have h1:=(h w.drew (js w)).out
  have:=Xf (Q:=NoPanic Q) hs (fun c a w h=>h) r _ a w.drew (by have:=jp (ops:=l.toArray);simpa using this) hB h1
  rw [hl] at this
  simpa using VZ _ _ _ _ this
theorem KT{a:Act}{w:World}(h:Q .normal a w):St P ops Q S nn .nil a w:=⟨h⟩
section
variable {ts:Array Value} {df:List Deferred} {d:Tmp} {i:Nat} {o:Oper} {r:Tr} {w:World}
theorem VP(v:Value)(hS:S w)(hi:ops[i]?=some o)(hr:∀ w',S w'→(execOp (Act.eval ⟨ts,df⟩) o).run P w'=.ok (.value v) w')(hw:Region.wanted o (yielded ops ts)=true)(hd:o.dst=some d)(h:∀ ts',ts.setIfInBounds d v=ts'→St P ops Q S nn r ⟨ts',df⟩ w):
    St P ops Q S nn (.take i r) ⟨ts,df⟩ w:=
  ⟨⟨hS,o,v,hi,.inl ⟨hw,hr⟩,by rw [hd];exact (h _ rfl).out⟩⟩
theorem QK(v:Value)(hi:ops[i]?=some o)(hr:∀ w',(execOp (Act.eval ⟨ts,df⟩) o).run P w'=.ok (.value v) w')(hw:Region.wanted o (yielded ops ts)=true)(hd:o.dst=some d)(h:∀ ts',ts.setIfInBounds d v=ts'→St P ops Q S nn r ⟨ts',df⟩ w):
    St P ops Q S nn (.pure i r) ⟨ts,df⟩ w:=
  ⟨⟨o,v,hi,.inl ⟨hw,fun w' _=>hr w'⟩,by rw [hd];exact (h _ rfl).out⟩⟩
end
theorem vP{w:World}{id:Nat}{a:Act}{l:List Oper}{α:Type}{A:α→Act}(F:α→World→Prop)(h1:(Code.region id l.toArray true).wp P (QaG fun a w=>∃ x,a=A x∧F x w) a w)(h2:∀ x w',F x w'→Q .normal (A x) w'):(Code.region id l.toArray true).wp P Q a w:=
  wp_mono h1 (fun e a' w' h=>by
    obtain ⟨he,x,ha,hF⟩:=h
    rw [he,ha];exact h2 x w' hF)
theorem Qcf{w:World}{id:Nat}{a:Act}{l:List Oper}{α β:Type}{A:α→β→Act}(F:α→β→World→Prop)(h1:(Code.region id l.toArray true).wp P (QaG fun a w=>∃ x y,a=A x y∧F x y w) a w)(h2:∀ x y w',F x y w'→Q .normal (A x y) w'):(Code.region id l.toArray true).wp P Q a w:=
  wp_mono h1 (fun e a' w' h=>by
    obtain ⟨he,x,y,ha,hF⟩:=h
    rw [he,ha];exact h2 x y w' hF)
theorem zf{a:Act}{K:Act→World→Prop}{x:Result Next}(h:o.upon P a (fun a w=>QaG K .normal a w) (QaG K) x):o.upon P a K Q x:=by
  cases x with
  |ok n w'=>
    cases n <;> simp only [Oper.upon] at h ⊢
    case value=>exact h.2
    case skip=>exact h.2
    case defer=>exact h.2
    case enter f args=>
      refine Calls.mono h fun e w'' he=>?_
      cases e with
      |returned u=>exact he.2
      |panicked c=>exact absurd he.1 (by simp)
      |outgrown=>obtain ⟨_,_,h1,_⟩:=he;cases h1
    case row row args=>exact Rows.mono h fun u w'' he=>he.2
  |halt y w'=>
    cases y <;> simp only [Oper.upon] at h ⊢
    case panic u=>exact absurd h.1 (by simp)
theorem QV(hi:ops[i]?=some o)(h:∀ Q':Exit→Act→World→Prop,(∀ a' w',(nn.contains i=false→S w')→Sq P ops Q S nn r a' w'→Q' .normal a' w')→wpList P ops Q' [o] ⟨ts,df⟩ w):
    Sq P ops Q S nn ((i,0)::r) ⟨ts,df⟩ w:=by
  refine ⟨?_⟩
  have h1:=h (QaG fun a' w'=>(nn.contains i=false→S w')∧jr P ops (NoPanic Q) S nn r a' w') (fun a' w' h2 h3=>⟨rfl,h2,h3.out⟩)
  unfold jr wpOp
  simp only [hi]
  simp only [wpList] at h1
  split
  · rename_i hw
    rw [if_pos hw] at h1
    rcases h1 with h1|⟨_,_,_,h2,_⟩
    · exact .inl (zf h1)
    · cases h2
  · rename_i hw
    rw [if_neg hw] at h1
    exact h1.2
structure StOp (P:Program) (ops:Array Oper) (Q:Exit→Act→World→Prop) (S:World→Prop) (nn:List Nat) (i:Nat) (r:Tr) (a:Act) (w:World):Prop where
  out:wpOp P ops (NoPanic Q) i (fun a' w'=>(nn.contains i=false→S w')∧wpT P ops (NoPanic Q) S nn r a' w') a w
theorem JX{r:Tr}(hi:ops[i]?=some o)(h:∀ Q':Exit→Act→World→Prop,(∀ a' w',(nn.contains i=false→S w')→St P ops Q S nn r a' w'→Q' .normal a' w')→wpList P ops Q' [o] ⟨ts,df⟩ w):
    StOp P ops Q S nn i r ⟨ts,df⟩ w:=by
  refine ⟨?_⟩
  have h1:=h (QaG fun a' w'=>(nn.contains i=false→S w')∧wpT P ops (NoPanic Q) S nn r a' w') (fun a' w' h2 h3=>⟨rfl,h2,h3.out⟩)
  unfold wpOp
  simp only [hi]
  simp only [wpList] at h1
  split
  · rename_i hw
    rw [if_pos hw] at h1
    rcases h1 with h1|⟨_,_,_,h2,_⟩
    · exact .inl (zf h1)
    · cases h2
  · rename_i hw
    rw [if_neg hw] at h1
    exact h1.2
theorem Zg{r:Tr}{a:Act}(h:StOp P ops Q S nn i r a w):St P ops Q S nn (.act i r) a w:=⟨h.out⟩
theorem xF{A B:Tr}{j:Nat}{a:Act}(h:StOp P ops Q S nn i A a w)(h2:StOp P ops Q S nn j B a w):St P ops Q S nn (.f2 i A j B) a w:=⟨⟨h.out,h2.out⟩⟩
theorem QgD{A B C:Tr}{j k:Nat}{a:Act}(h:StOp P ops Q S nn i A a w)(h2:StOp P ops Q S nn j B a w)(h3:StOp P ops Q S nn k C a w):St P ops Q S nn (.f3 i A j B k C) a w:=⟨⟨h.out,h2.out,h3.out⟩⟩
theorem Qz{Q':Exit→Act→World→Prop}{a:Act}(h:Q' .normal a w):wpList P ops Q' [] a w:=h
theorem Jr{Q':Exit→Act→World→Prop}(f:FuncId)(args:Array Value)(he:(execOp (Act.eval ⟨ts,df⟩) o).run P w=.ok (.enter f args) w)(hw:Region.wanted o (yielded ops ts)=true)
    (hc:Calls P f args w fun e w'=>∃ v,e=.returned v∧Q' .normal ((⟨ts,df⟩:Act).put o.dst v) w'):wpList P ops Q' [o] ⟨ts,df⟩ w:=by
  unfold wpList
  rw [if_pos hw]
  refine .inl ?_
  unfold Oper.wp
  rw [he]
  refine Calls.mono hc fun e w' ⟨v,h1,h2⟩=>?_
  subst h1
  exact h2
theorem Xp{Q':Exit→Act→World→Prop}{a:Act}{rest:List Oper}(f:FuncId)(args:Array Value)(he:(execOp a.eval o).run P w=.ok (.enter f args) w)(hw:Region.wanted o (yielded ops a.tmps)=true)
    (hc:Calls P f args w fun e w'=>∃ v,e=.returned v∧wpList P ops Q' rest (a.put o.dst v) w'):wpList P ops Q' (o::rest) a w:=by
  unfold wpList
  rw [if_pos hw]
  refine .inl ?_
  unfold Oper.wp
  rw [he]
  refine Calls.mono hc fun e w' ⟨v,h1,h2⟩=>?_
  subst h1
  exact h2
end
theorem Ko(n:Int):IntKind.u8.wrap n=n%256:=by simp [IntKind.wrap,IntKind.signed,IntKind.bits]
theorem ZY(n:Int):IntKind.u32.wrap n=n%4294967296:=by simp [IntKind.wrap,IntKind.signed,IntKind.bits]
section
variable {P:Program} {w:World} {o:Oper} {ev:Operand→Value} {g:FuncId}
theorem Qcg{k yk:IntKind}(m n:Int)(h0:0≤n)(h1:n≤k.bits)(t t2:TypeId)(x y:Operand)(ho:o.op=.binOp .shr t x y t2)(hx:ev x=.int k m)(hy:ev y=.int yk n):(execOp ev o).run P w=.ok (.value (.int k (m/2^n.toNat))) w:=by
  unfold execOp
  simp [ho,hx,hy,go_sem,shift_shr k yk m n h0 h1]
theorem Qch{k yk:IntKind}(m n:Int)(h0:0≤n)(h1:n≤k.bits)(t t2:TypeId)(x y:Operand)(ho:o.op=.binOp .shl t x y t2)(hx:ev x=.int k m)(hy:ev y=.int yk n):(execOp ev o).run P w=.ok (.value (.int k (k.wrap (m*2^n.toNat)))) w:=by
  unfold execOp
  simp [ho,hx,hy,go_sem,shift_shl k yk m n h0 h1]
theorem Xe{fn:Func}(hf:P.funcs[g]?=some fn)(hn:(fn.name=="runtime.NumGoroutine")=false)(hb:fn.body.isNone=false)(v:Value)(hv:v=.func (.func g) #[] #[])(x:Operand)(xs:Array Operand)(ts:Array TypeId){vs:Array Value}
    (ho:o.op=.call { callee:=.value x,args:=xs,argTypes:=ts }) (hx:ev x=v) (hs:xs.map ev=vs):(execOp ev o).run P w=.ok (.enter g vs) w:=by
  subst hv
  have h1:fn.name≠"runtime.NumGoroutine":=by simpa using hn
  unfold execOp
  simp [ho,hx,hs,go_sem]
  simp [callFunc,hf,h1]
  intro hc;rw [hc] at hb;cases hb
end
section
variable {w:World} {n:Nat} {v:Value}
theorem Sl.at_{α:Type}{f:α→Value}{l:List α}(h:Sl w v (l.map f))(d:α){ad:Addr}{m c:Nat}(hv:v=.slice (some ad) m c){i:Int}(h0:0≤i)(h1:i<(l.length:Int)):w.cell? (ad.add i.toNat)=some (f (nt l i.toNat d)):=by
  obtain ⟨a,cap,h2,h3⟩:=Sl.get h d h0 h1
  rw [hv] at h2;injection h2 with h2;injection h2 with h2;subst h2;exact h3
theorem SlN.at_{α:Type}{f:α→List Value}{l:List α}(hf:∀ x,(f x).length=n)(h:SlN w n v l.length (l.flatMap f))(d:α){ad:Addr}{m c:Nat}(hv:v=.slice (some ad) m c){i:Int}(h0:0≤i)(h1:i<(l.length:Int)):
    ∀ j,j<n→w.cell? ((ad.add (i.toNat*n)).add j)=(f (nt l i.toNat d))[j]?:=by
  obtain ⟨a,cap,h2,h3⟩:=SlN.get hf h d h0 h1
  rw [hv] at h2;injection h2 with h2;injection h2 with h2;subst h2;exact h3
end
end Go.Proofs.YtaipghemddjecaaGreatDoor
