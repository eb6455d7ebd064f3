/-
  An argument of plain types, as it lies in memory, is a datum of the machine; and it reads as before where nothing old turned.
  The machine at the reference's violations of configurations.
  The machine at the reference's violations of configurations: cabins, and all.
  The reference's violations of configurations, of any size that the bound allows.
-/
import Derived.Test.YtaklebjoenophaaGreatDmR
import Derived.ChangeArms
import Derived.DataReads
import Derived.Carry
import Derived.Test.YtaklebjoenophaaGreatPoA
set_option linter.unusedSimpArgs false
set_option linter.unusedVariables false
namespace Go.Proofs.YtaklebjoenophaaGreat.Dm
open Go Go.RowKit
inductive TC (P:Program):TypeId->List D->Prop where
 |bool {t:TypeId} (ht:P.underlying t=some .bool) (b:Bool):TC P t [.bool b]
 |int {t:TypeId} {k:IntKind} {n:Int} (ht:P.underlying t=some (.int k)) (hw:(Lit.int k n).wf=true):TC P t [.int k n]
 |str {t:TypeId} {s:ByteArray} (ht:P.underlying t=some .string) (hs:s.size<=maxLen):TC P t [.str s]
 |nils {t e:TypeId} (ht:P.underlying t=some (.slice e)):TC P t [.nils]
 |sl {t e:TypeId} {es:List (List D)} {x:Bool} (ht:P.underlying t=some (.slice e)) (hl:es.length<=maxLen) (hes:∀(j:Nat) (c:List D),es[j]?=some c->TC P e c):TC P t [.sl (P.cellsOf e) es x]
 |struct {t:TypeId} {fs:Array Field} {cs:List D} (ht:P.underlying t=some (.struct fs)) (hl:cs.length=P.cellsOf t) (hf:∀f∈fs.toList,TC P f.type ((cs.drop f.offset).take (P.cellsOf f.type))):TC P t cs
 |array {t e:TypeId} {n:Nat} {cs:List D} (ht:P.underlying t=some (.array n e)) (hl:cs.length=P.cellsOf t) (hf:∀i,i<n->TC P e ((cs.drop (i*P.cellsOf e)).take (P.cellsOf e))):TC P t cs
def chainB (P:Program):Nat->List (TypeId×Nat)->Nat->Bool
 |o,[],tot=>o == tot
 |o,p::l,tot=>p.2 == o && chainB P (o+P.cellsOf p.1) l tot
def plainTs (P:Program) (ts:List TypeId):Bool:=
 ts.all λt=>match P.underlying t with
  |some .bool |some (.int _) |some .string=>true
  |some (.slice e)=>ts.contains e && decide (0<P.cellsOf e)
  |some (.struct fs)=>fs.toList.all (λf=>ts.contains f.type) && chainB P 0 (fs.toList.map λf=>(f.type,f.offset)) (P.cellsOf t)
  |some (.array n e)=>ts.contains e && chainB P 0 ((List.range n).map λi=>(e,i*P.cellsOf e)) (P.cellsOf t)
  |_=>false
theorem pureL_app:∀ {a b:List D},pureL a=true->pureL b=true->pureL (a++b)=true
 | [],b,_,h=>h
 |d::a,b,h,k=>by
  rw[Ze,pureL] at*
  rw[Ye]at h ⊢
  exact⟨h.1,pureL_app h.2 k⟩
theorem chain_le {P:Program}:∀ {l:List (TypeId×Nat)} {o tot:Nat},chainB P o l tot=true->o<=tot/\∀p∈l,o<=p.2/\p.2+P.cellsOf p.1<=tot
 | [],o,tot,h=>by
  simp[chainB]at h
  exact⟨by omega,λp hp=>by cases hp⟩
 |q::l,o,tot,h=>by
  simp only[chainB,Ye,beq_iff_eq]at h
  obtain⟨i1,i2⟩:=chain_le h.2
  refine⟨by omega,λp hp=>?_⟩
  rcases List.mem_cons.1 hp with rfl |hp
  ·omega
  ·have:=i2 p hp;omega
/-! ### How much a datum holds -/
mutual
def bulkD:D->Nat
 | .str s=>s.size+1
 | .sl _ es _=>bulkLL es+1
 | .agg cs=>bulkL cs
 |_=>1
def bulkL:List D->Nat
 | []=>0
 |d::l=>bulkD d+bulkL l
def bulkLL:List (List D)->Nat
 | []=>0
 |c::l=>bulkL c+bulkLL l
end
mutual
def bulkW {H:Type}:DataW H->Nat
 | .lit (.string b)=>b.length+1
 | .slice es _=>bulkWs es+1
 | .agg ps=>bulkWs ps
 |_=>1
def bulkWs {H:Type}:List (DataW H)->Nat
 | []=>0
 |d::l=>bulkW d+bulkWs l
end
theorem bulkL_app (a b:List D):bulkL (a++b)=bulkL a+bulkL b:=by
 induction a with
 |nil=>simp[bulkL]
 |cons d a ih=>simp only[Ze,bulkL,ih];omega
theorem bulkWs_eq {H:Type} (l:List (DataW H)):bulkWs l=(l.map bulkW).sum:=by
 induction l with
 |nil=>rfl
 |cons d l ih=>simp only[bulkWs,Zh,List.sum_cons,ih]
theorem bulkLL_le {H:Type}:∀ {es:List (List D)} {ys:List (DataW H)},es.length=ys.length->(∀(i:Nat) c y,es[i]?=some c->ys[i]?=some y->bulkL c<=bulkW y)->bulkLL es<=bulkWs ys
 | [],[],_,_=>Yt _
 |c::es,y::ys,hl,h=>by
  have h0:=h 0 c y rfl rfl
  have:=bulkLL_le (es:=es) (ys:=ys) (by simpa using hl) (λi c y h1 h2=>h (i+1) c y (by simpa using h1) (by simpa using h2))
  simp only[bulkLL,bulkWs];omega
 | [],_::_,hl,_=>by simp at hl
 |_::_,[],hl,_=>by simp at hl
section
variable {H : Type} {enc : TypeId × Value -> H} {P : Program} {W : World} {spare : Nat -> Bool} {held : Bool} {I : Nat -> Prop}
def Cells (P:Program) (W:World) (I:Nat->Prop) (t:TypeId) (cs:List Value) (B:Nat):Prop:=∃ds:List D,TC P t ds/\VRs W ⟨P,λ_=>none,I⟩ ds cs/\pureL ds=true/\ds.all D.one=true/\bulkL ds<=B
theorem cells_chain:∀ {l:List (TypeId×Nat)} {o tot:Nat} {cs:List Value} {bs:List Nat},chainB P o l tot=true->cs.length=tot->l.length<=bs.length->(∀(i:Nat) p b,l[i]?=some p->bs[i]?=some b->Cells P W I p.1 ((cs.drop p.2).take (P.cellsOf p.1)) b)->
  ∃ds:List D,ds.length=tot-o/\VRs W ⟨P,λ_=>none,I⟩ ds (cs.drop o)/\pureL ds=true/\ds.all D.one=true/\(∀p∈l,TC P p.1 ((ds.drop (p.2-o)).take (P.cellsOf p.1)))/\bulkL ds<=bs.sum
 | [],o,tot,cs,bs,h,hc,_,_=>by
  simp[chainB]at h
  refine⟨[],by simp;omega,?_,rfl,rfl,(λp hp=>by cases hp),Xb _⟩
  rw[List.drop_eq_nil_of_le (by omega)]
  exact VRs.nil
 |q::l,o,tot,cs,[],h,hc,hb,hp=>by simp at hb
 |q::l,o,tot,cs,b::bs,h,hc,hb,hp=>by
  have hle:=chain_le h
  simp only[chainB,Ye,beq_iff_eq]at h
  obtain⟨rfl,h⟩:=h
  obtain⟨d0,t0,v0,p0,o0,b0⟩:=hp 0 q b rfl rfl
  obtain⟨ds,hl,hv,hpu,ho,ht,hbd⟩:=cells_chain (bs:=bs) h hc (by simpa using hb) (λi p b h1 h2=>hp (i+1) p b (by simpa using h1) (by simpa using h2))
  have hq:=(hle.2 q (List.mem_cons.2 (.inl rfl))).2
  have hd0:d0.length=P.cellsOf q.1:=by
   rw[v0.1,Zn,Zo];omega
  refine⟨d0++ds,by rw[Yd,hl,hd0];omega,?_,pureL_app p0 hpu,by rw[List.all_append,o0,ho];rfl,λp hp'=>?_,by rw[bulkL_app,List.sum_cons];omega⟩
  ·have e:cs.drop q.2=(cs.drop q.2).take (P.cellsOf q.1)++cs.drop (q.2+P.cellsOf q.1):=by
    rw[<-List.drop_drop,List.take_append_drop]
   rw[e]
   exact v0.append hv
  ·rcases List.mem_cons.1 hp' with rfl |hp'
   ·rw[Nat.sub_self,List.drop_zero,List.take_append_of_le_length (by omega),List.take_of_length_le (by omega)]
    exact t0
   ·have h1:=(chain_le h).2 p hp'
    have e:(d0++ds).drop (p.2-q.2)=ds.drop (p.2-(q.2+P.cellsOf q.1)):=by
     rw[List.drop_append,List.drop_eq_nil_of_le (by omega),Zz]
     congr 1
     omega
    rw[e]
    exact ht p hp'
theorem some_of_lt {α:Type} {l:List α} {i:Nat} (h:i<l.length):∃c,l[i]?=some c:=⟨l[i],Yq h⟩
theorem pureLL_of:∀ {l:List (List D)},(∀c∈l,pureL c=true)->pureLL l=true
 | [],_=>rfl
 |c::l,h=>by
  rw[pureLL,h c (List.mem_cons.2 (.inl rfl)),pureLL_of λd hd=>h d (List.mem_cons.2 (.inr hd))]
  rfl
theorem choose_list {α:Type} {p:Nat->α->Prop}:∀n,(∀i,i<n->∃x,p i x)->∃l:List α,l.length=n/\∀i x,l[i]?=some x->p i x
 |0,_=>⟨[],rfl,λi x h=>by simp at h⟩
 |n+1,h=>by
  obtain⟨l,hl,hp⟩:=choose_list n (λi hi=>h i (by omega))
  obtain⟨x,hx⟩:=h n (by omega)
  refine⟨l++[x],by simp[hl],λi y hy=>?_⟩
  by_cases hi:i<l.length
  ·rw[Zc hi]at hy;exact hp i y hy
  ·rw[Zq (by omega)]at hy
   have:i-l.length=0:=by
    by_cases h0:i-l.length=0
    ·exact h0
    ·rw[List.getElem?_eq_none (by simp;omega)]at hy;cases hy
   rw[this]at hy
   cases hy
   rw[show i=n by omega]
   exact hx
theorem cells_of_trod {ts:List TypeId} (hts:plainTs P ts=true) (hI:∀g,g<W.heap.size->I g):∀(n:Nat) (t:TypeId) (cs:List Value) (x:DataW H×List MemPlace),t∈ts->DataW.trod enc P W 0 spare held n t cs=some x->Cells P W I t cs (bulkW x.1):=by
 intro n
 induction n with
 |zero=>intro t cs x _ h;simp[DataW.trod]at h
 |succ n ih=>
  intro t cs x ht h
  have hp:=List.all_eq_true.1 hts t ht
  cases hu:P.underlying t with
  |none=>rw[hu]at hp;cases hp
  |some u=>
   rw[hu]at hp
   cases u with
   |bool=>
    obtain⟨b,rfl,rfl⟩:=DataW.trod_bool hu h
    exact⟨[.bool b],.bool hu b,VRs.cons (.bool b) VRs.nil,rfl,rfl,Yt _⟩
   |int k=>
    obtain⟨m,rfl,rfl,hw⟩:=DataW.trod_int hu h
    exact⟨[.int k m],.int hu hw,VRs.cons (.int k m) VRs.nil,rfl,rfl,Yt _⟩
   |string=>
    obtain⟨s,rfl,rfl,hs⟩:=DataW.trod_string hu h
    exact⟨[.str s],.str hu hs,VRs.cons (.str s) VRs.nil,rfl,rfl,Nat.le_of_eq (by simp[bulkL,bulkD,bulkW])⟩
   |slice e=>
    simp only[Ye,List.contains_iff_mem,Yy]at hp
    rcases DataW.trod_slice hu h with ⟨rfl,rfl⟩ | ⟨a,len,cap,elems,rest,m,hm,rfl,rfl,-,hlc,hcm,hel,hx,-,-⟩
    ·exact⟨[.nils],.nils hu,VRs.cons .nils VRs.nil,rfl,rfl,Yt _⟩
    ·obtain rfl:n=m:=by omega
     by_cases h0:len=0
     ·subst h0
      exact⟨[.sl (P.cellsOf e) [] false],.sl hu (Xb _) (λj c hj=>by simp at hj),VRs.cons (.sl0 (λh=>by cases h)) VRs.nil,rfl,rfl,by simp[bulkL,bulkD,bulkLL,bulkW]⟩
     ·have one:∀i,i<len->∃ds:List D,TC P e ds/\ds.length=P.cellsOf e/\pureL ds=true/\ds.all D.one=true/\(∃cs',W.cells? 0 (a.add (i*P.cellsOf e)) (P.cellsOf e)=some cs'/\VRs W ⟨P,λ_=>none,I⟩ ds cs')/\∀y,(elems.map (·.1))[i]?=some y->bulkL ds<=bulkW y:=by
       intro i hi
       have hk:=hx i hi
       rw[Yq (by omega)]at hk
       obtain⟨cs',h1,h2⟩:=Option.bind_eq_some_iff.1 hk
       obtain⟨ds,d1,d2,d3,d4,d5⟩:=ih e cs' _ hp.1 h2
       exact⟨ds,d1,d2.1.trans (World.cells?_some h1).2.1,d3,d4,⟨cs',h1,d2⟩,λy hy=>by
        rw[Zm,Yq (by omega)]at hy
        obtain rfl:=Yi hy
        exact d5⟩
      obtain⟨es,hes,hE⟩:=choose_list len one
      have spot:a.spot=none:=by
       obtain⟨ds,-,-,-,-,⟨cs',hc,-⟩,-⟩:=one 0 (by omega)
       have h1:=(World.cells?_some hc).2.2 0 hp.2
       have hl:=(World.cells?_some hc).2.1
       rw[Yq (by omega)]at h1
       simp only[Nat.zero_mul,Addr.add,if_true,World.cell?]at h1
       split at h1
       ·cases hs:a.spot with
        |none=>rfl
        |some s=>rw[hs]at h1;simp at h1
       ·cases h1
      obtain⟨g,b,s⟩:=a
      simp only at spot
      subst spot
      have addr:∀i j (cs':List Value),W.cells? 0 ((⟨g,b,none⟩:Addr).add (i*P.cellsOf e)) (P.cellsOf e)=some cs'->j<P.cellsOf e->∃v,cs'[j]?=some v/\W.cell? ⟨g,b+(i*P.cellsOf e+j),none⟩=some v:=by
       intro i j cs' hc hj
       obtain⟨v,hv⟩:=some_of_lt (l:=cs') (i:=j) (by rw[(World.cells?_some hc).2.1];exact hj)
       refine⟨v,hv,?_⟩
       have h1:=(World.cells?_some hc).2.2 j hj
       rw[hv]at h1
       rw[<-h1]
       congr 1
       unfold Addr.add
       split <;> split <;> simp_all <;> omega
      have hg:g<W.heap.size:=by
       obtain⟨c,hc0⟩:=some_of_lt (l:=es) (i:=0) (by omega)
       obtain⟨-,-,-,-,⟨cs',hc,-⟩,-⟩:=hE 0 c hc0
       obtain⟨v,-,h1⟩:=addr 0 0 cs' hc hp.2
       exact World.block_lt_of_cell? W _ h1
      refine⟨[.sl (P.cellsOf e) es false],.sl hu (by omega) (λj c hj=>(hE j c hj).1),VRs.cons ?_ VRs.nil,?_,rfl,by
       have:=bulkLL_le (es:=es) (ys:=elems.map (·.1)) (by simp;omega) (λi c y h1 h2=>(hE i c h1).2.2.2.2.2 y h2)
       simp only[bulkL,bulkD,bulkW];omega⟩
      ·rw[<-hes]
       refine .sl (λi j=>(((W.cells? 0 ((⟨g,b,none⟩:Addr).add (i*P.cellsOf e)) (P.cellsOf e))).getD [])[j]?.getD undef) (by omega) (hI g hg) (by omega) (λh=>by cases h) (λi c hc=>(hE i c hc).2.1) ?_ ?_ ?_
       ·intro i j hi hj
        obtain⟨c,hc0⟩:=some_of_lt hi
        obtain⟨-,-,-,-,⟨cs',hc,-⟩,-⟩:=hE i c hc0
        obtain⟨v,h1,h2⟩:=addr i j cs' hc hj
        rw[h2,hc,Option.getD_some,h1]
        rfl
       ·intro i j c d hi hj
        exact List.all_eq_true.1 (hE i c hi).2.2.2.1 d (Yg hj)
       ·intro i j c d hi hj
        obtain⟨-,-,-,-,⟨cs',hc,hv⟩,-⟩:=hE i c hi
        obtain⟨v,h1,h2⟩:=hv.get hj
        rw[hc,Option.getD_some,h1]
        exact h2
      ·rw[pureL,D.pure,pureL,Yj]
       exact pureLL_of λc hc=>by
        obtain⟨i,hi⟩:=Xd.1 hc
        exact (hE i c hi).2.2.1
   |struct fs=>
    simp only[Ye]at hp
    obtain⟨xs,m,hm,rfl,hl,hxl,hx⟩:=DataW.trod_struct hu h
    obtain rfl:n=m:=by omega
    obtain⟨ds,d1,d2,d3,d4,d5,d6⟩:=cells_chain (W:=W) (I:=I) (bs:=xs.map λy=>bulkW y.1) hp.2 hl (by simp;omega) (λi p b hp' hb=>by
     rw[Zm]at hp' hb
     obtain⟨f,hi,rfl⟩:=Yb.1 hp'
     obtain⟨y,hy,rfl⟩:=Yb.1 hb
     have hf:=Yg hi
     have:=hx i f (by simpa using hi)
     rw[hy]at this
     exact ih _ _ _ (by simpa using List.all_eq_true.1 hp.1 f hf) this)
    refine⟨ds,.struct hu (by omega) (λf hf=>?_),by simpa using d2,d3,d4,by rw[bulkW,bulkWs_eq,List.map_map];exact d6⟩
    simpa using d5 (f.type,f.offset) (Zy.2 ⟨f,hf,rfl⟩)
   |array k e=>
    simp only[Ye,List.contains_iff_mem]at hp
    rw[DataW.trod_step]at h
    unfold DataW.trodStep at h
    rw[hu]at h
    simp only at h
    split at h
    ·rename_i hl
     obtain⟨xs,hxs,rfl⟩:=Yb.1 h
     have hxl:=mapM_some_length hxs
     obtain⟨ds,d1,d2,d3,d4,d5,d6⟩:=cells_chain (W:=W) (I:=I) (bs:=xs.map λy=>bulkW y.1) hp.2 hl (by simp at hxl ⊢;omega) (λi p b hp' hb=>by
      rw[Zm]at hp' hb
      obtain⟨j,hi,rfl⟩:=Yb.1 hp'
      obtain⟨y,hy,rfl⟩:=Yb.1 hb
      have:=mapM_some_get hxs i j hi
      rw[hy]at this
      exact ih _ _ _ hp.1 this)
     refine⟨ds,.array hu (by omega) (λi hi=>?_),by simpa using d2,d3,d4,by rw[bulkW,bulkWs_eq,List.map_map];exact d6⟩
     simpa using d5 (e,i*P.cellsOf e) (Zy.2 ⟨i,List.mem_range.2 hi,rfl⟩)
    ·cases h
   |_=>cases hp
def TV (P:Program) (t:TypeId) (d:D):Prop:=(aggT P t=some true/\∃ds,d=.agg ds/\TC P t ds)∨(aggT P t=some false/\TC P t [d])
theorem arg_of_trodB {ts:List TypeId} (hts:plainTs P ts=true) (hI:∀g,g<W.heap.size->I g) {r:Reach} {base:Nat} {t:TypeId} {v:Value} {d:DataW H} {ps:List MemPlace} (ht:t∈ts) (hv:Value.okWide P W r base t v) (h:DataW.Trod enc P W 0 spare held t v d ps):
  ∃x,TV P t x/\VR W ⟨P,λ_=>none,I⟩ x v/\x.pure=true/\bulkD x<=bulkW d:=by
 obtain⟨n,hn⟩:=h
 obtain⟨ds,h1,h2,h3,h4,h5⟩:=cells_of_trod hts hI n t _ _ ht hn
 by_cases hag:aggT P t=some true
 ·have:∃cs,v=.agg cs:=by
   unfold Value.okWide at hv
   unfold aggT at hag
   cases hu:P.underlying t with
   |none=>rw[hu]at hag;cases hag
   |some u=>
    rw[hu]at hv hag
    cases u <;> first | (cases hag;done) | (obtain⟨cs,h,-⟩:=hv;exact⟨cs,h⟩)
  obtain⟨cs,rfl⟩:=this
  have:=VR.agg_of h2
  exact⟨.agg ds,.inl ⟨hag,ds,rfl,h1⟩,by simpa [Value.cells] using this,by rw[D.pure];exact h3,by rw[bulkD];exact h5⟩
 ·have hag':aggT P t=some false:=by
   have hp:=List.all_eq_true.1 hts t ht
   unfold aggT at hag ⊢
   cases hu:P.underlying t with
   |none=>rw[hu]at hp;cases hp
   |some u=>
    rw[hu]at hp hag
    cases u <;> first |rfl | (cases hp;done) |exact absurd rfl hag
  have one:∃d,ds=[d]:=by
   cases h1 with
   |struct ht' _ _=>rw[aggT,ht']at hag';cases hag'
   |array ht' _ _=>rw[aggT,ht']at hag';cases hag'
   |_=>exact⟨_,rfl⟩
  obtain⟨d,rfl⟩:=one
  have hone:v.cells.toList=[v]:=by
   have hl:=h2.1
   cases v with
   |agg cs=>
    exfalso
    unfold Value.okWide at hv
    unfold aggT at hag'
    have hp:=List.all_eq_true.1 hts t ht
    cases hu:P.underlying t with
    |none=>rw[hu]at hp;cases hp
    |some u=>
     rw[hu]at hp hv hag'
     cases u <;> first | (cases hp;done) | (cases hag';done) |skip
     all_goals simp[Cell.okWide,Cell.ok,hu]at hv
   |_=>rfl
  rw[hone]at h2
  exact⟨d,.inr ⟨hag',h1⟩,h2.head,by rw[pureL,Ye]at h3;exact h3.1,by simpa [bulkL] using h5⟩
inductive TVs (P:Program):List TypeId->List D->Prop where
 |nil:TVs P [] []
 |cons {t:TypeId} {ts:List TypeId} {d:D} {ds:List D} (h:TV P t d) (hs:TVs P ts ds):TVs P (t::ts) (d::ds)
theorem args_of_trodB {ts:List TypeId} (hts:plainTs P ts=true) (hI:∀g,g<W.heap.size->I g) {r:Reach} {base:Nat}:∀ {us:List TypeId} {vs:List Value} {ds:List (DataW H)} {ps:List MemPlace},(∀t∈us,t∈ts)->(∀(j:Nat) t v,us[j]?=some t->vs[j]?=some v->Value.okWide P W r base t v)->DataW.TrodAll enc P W 0 spare held us vs ds ps->
  ∃xs,TVs P us xs/\VRs W ⟨P,λ_=>none,I⟩ xs vs/\pureL xs=true/\bulkL xs<=bulkWs ds
 | [],[],[],_,_,_,_=>⟨[],.nil,VRs.nil,rfl,Yt _⟩
 |t::us,v::vs,d::ds,ps,hus,hv,⟨p,q,h1,h2,e⟩=>by
  obtain⟨x,a1,a2,a3,a4⟩:=arg_of_trodB hts hI (hus t (List.mem_cons.2 (.inl rfl))) (hv 0 t v rfl rfl) h1
  obtain⟨xs,b1,b2,b3,b4⟩:=args_of_trodB hts hI (us:=us) (vs:=vs) (λt h=>hus t (List.mem_cons.2 (.inr h))) (λj t v h k=>hv (j+1) t v (by simpa using h) (by simpa using k)) h2
  exact⟨x::xs,.cons a1 b1,VRs.cons a2 b2,by rw[pureL,a3,b3];rfl,by simp only[bulkL,bulkWs];omega⟩
theorem stay_all (hl:laidOutB P=true) {W':World} (hb:Below W.heap.size W W'):∀ {us:List TypeId} {vs:List Value} {ds:List (DataW H)} {ps:List MemPlace},us.all (λt=>P.readableRec t && decide (t<P.types.size))=true->DataW.TrodAll enc P W 0 (λ_=>true) true us vs ds ps->(∀x∈ps,x.block<W.heap.size)->
  DataW.TrodAll enc P W' 0 (λb=>decide (b<W.heap.size)) true us vs ds ps
 | [],[],[],_,_,h,_=>h
 |t::us,v::vs,d::ds,ps,hr,⟨p,q,h1,h2,e⟩,hlt=>by
  rw[List.all_cons,Ye,Ye,Yy]at hr
  subst e
  exact⟨p,q,Below.trod hl hr.1.1 hr.1.2 h1 hb (λx hx=>hlt x (List.mem_append_left _ hx)),stay_all hl hb hr.2 h2 (λx hx=>hlt x (Zr _ hx)),rfl⟩
end
open Gw
/-! ### Appends of violations -/
theorem sz_fault:sizeT Tryz.prog 112=some 2:=by kernel_rfl
theorem ze_fault:zeroT Tryz.prog 112=some (.agg [.int .i64 0,.str (ByteArray.mk #[])]):=by kernel_rfl
theorem by_fault24:bytesT Tryz.prog 112=24:=by kernel_rfl
def FaultOb (o:Ob):Prop:=∃fs:List (Int×ByteArray),o=.row 2 (fs.map encF)
def KeepF (T T':List Ob):Prop:=∀(j:Nat) (ob:Ob),¬FaultOb ob->T[j]?=some ob->T'[j]?=some ob
theorem KeepF.refl {T:List Ob}:KeepF T T:=λ_ _ _ h=>h
theorem KeepF.trans {T U V:List Ob} (h:KeepF T U) (g:KeepF U V):KeepF T V:=λj ob n hj=>g j ob n (h j ob n hj)
theorem KeepF.push {T:List Ob} {o:Ob}:KeepF T (T++[o]):=λ_ _ _ h=>get_old h
theorem not_fault2 {s:ByteArray} {d:D}:¬FaultOb (.row 2 [[.str s,d]]):=by
 rintro⟨fs,h⟩
 injection h with _ h
 cases fs with
 |nil=>cases h
 |cons f fs=>
  rw[Zh]at h
  injection h with h _
  simp[encF]at h
theorem not_fault4 {a b c d:D}:¬FaultOb (.row 4 [[a,b,c,d]]):=by
 rintro⟨fs,h⟩
 injection h with h
 omega
theorem app_if {T:List Ob} {d:D} {fs:List (Int×ByteArray)} (h:GL 2 encF T d fs) (hl:fs.length<=5000000000000) (b:Bool) (e:Int) (s:ByteArray):
  ∃d' T',(b=true->dAppend Tryz.prog T 51 51 d (.sl 2 [[.int .i64 e,.str s]] true)=some (d',T'))/\(b=false->d'=d/\T'=T)/\GL 2 encF T' d' (fs++ifF b e s)/\KeepF T T':=by
 cases b
 ·exact⟨d,T,(λh=>by cases h),λ_=>⟨rfl,rfl⟩,by rw[ifF,if_neg (by simp),Za];exact h,KeepF.refl⟩
 ·obtain⟨S',h1,h2,h3,h4,h5⟩:=app_glB el_fault sz_fault ze_fault rfl (by rw[by_fault24];omega) (by unfold maxLen;omega) h (e,s)
  refine⟨_,S',λ_=>h1,(λh=>by cases h),by rw[ifF,if_pos rfl];exact h2,λj ob hn hj=>h4 j ob (λn e=>?_) hj⟩
  rcases h with ⟨e',-⟩ | ⟨k,e',hk⟩
  ·rw[e]at e';cases e'
  ·rw[e]at e'
   cases e'
   rw[hk]at hj
   exact hn ⟨fs,(Yi hj).symm⟩
theorem app_fls {T:List Ob} {d x:D} {fs gs:List (Int×ByteArray)} (h:GL 2 encF T d fs) (hx:FLs 2 encF x gs) (hl:fs.length+gs.length<=5000000000000):
  ∃d' T',dAppend Tryz.prog T 51 51 d x=some (d',T')/\GL 2 encF T' d' (fs++gs)/\KeepF T T':=by
 have hb:bytesT Tryz.prog 112=24:=by kernel_rfl
 have hsrc:srcOf T (1+1) x=some (gs.map encF):=by
  rcases hx with ⟨rfl,rfl⟩ | ⟨y,rfl⟩
  ·rfl
  ·simp[srcOf]
 have hold:srcOf T (1+1) d=some (fs.map encF):=by
  rcases h with ⟨rfl,rfl⟩ | ⟨k,rfl,hk⟩
  ·rfl
  ·have:(List.map encF fs).take fs.length=List.map encF fs:=List.take_of_length_le (by simp)
   simp[srcOf,hk,this]
 by_cases hg:gs=[]
 ·subst hg
  refine⟨d,T,?_,by rw[Za];exact h,KeepF.refl⟩
  unfold dAppend
  rw[if_pos rfl,el_fault]
  dsimp only
  rw[sz_fault,ze_fault]
  dsimp only
  rw[if_pos (show (D.agg [D.int IntKind.i64 0,D.str (ByteArray.mk #[])]).cells.length=1+1 from rfl),hold,hsrc]
  simp
 ·have hgl:¬(gs.map encF).length=0:=by
   rw[Yz]
   exact λe=>hg (Yp e)
  have hm:(fs.map encF).length+(gs.map encF).length<=maxLen/\((fs.map encF).length+(gs.map encF).length)*24<=140737488355328:=by
   simp only[Yz,maxLen];omega
  rcases h with ⟨rfl,rfl⟩ | ⟨k,rfl,hk⟩
  ·refine⟨.os T.length 0 gs.length false,T++[.row 2 (gs.map encF)],?_,.inr ⟨T.length,rfl,get_end⟩,KeepF.push⟩
   unfold dAppend
   rw[if_pos rfl,el_fault]
   dsimp only
   rw[sz_fault,ze_fault]
   dsimp only
   rw[if_pos (show (D.agg [D.int IntKind.i64 0,D.str (ByteArray.mk #[])]).cells.length=1+1 from rfl),hold,hsrc]
   dsimp only
   rw[if_neg hgl,hb,if_pos hm,Yz]
  ·refine⟨.os T.length 0 (fs++gs).length false,T.set k .dead++[.row 2 ((fs++gs).map encF)],?_,.inr ⟨T.length,rfl,get_end'⟩,λj ob hn hj=>?_⟩
   ·unfold dAppend
    rw[if_pos rfl,el_fault]
    dsimp only
    rw[sz_fault,ze_fault]
    dsimp only
    rw[if_pos (show (D.agg [D.int IntKind.i64 0,D.str (ByteArray.mk #[])]).cells.length=1+1 from rfl),hold,hsrc]
    dsimp only
    rw[if_neg hgl,hb,if_pos hm]
    simp[hk]
   ·refine get_old ?_
    rw[Yc]
    ·exact hj
    ·rintro rfl
     rw[hk]at hj
     exact hn ⟨fs,(Yi hj).symm⟩
/-! ### Texts and numbers -/
theorem ba_len (a b:ByteArray):(a++b).size=a.size+b.size:=ByteArray.size_append
theorem mx_of {a b:ByteArray} (h:a.size+b.size<=1000):¬IntKind.i64.max<(a.size:Int)+(b.size:Int):=by
 show ¬(9223372036854775807:Int)<_
 omega
theorem lett_cls (s:ByteArray):lettS s 1=clsB s:=by
 unfold lettS clsB
 by_cases h:s.size=1
 ·rw[h]
  simp only[WY]
  obtain⟨b,hb⟩:=byte_at' (s:=s) (i:=0) (by omega)
  simp[evr,hb]
 ·rw[Ym h];rfl
theorem r01_class {n:Nat} {s:ByteArray} (hn:s.size+5<n) (hz:s.size<=9223372036854775807) (st:Bool) (S:List Ob):callD E (dcall E n) st S 107 [.str s]=some (.bool (clsB s),S):=by
 obtain⟨m,rfl⟩:∃m,n=m+2:=⟨n-2,by omega⟩
 have q:∀st S,callD E (dcall E (m+1)) st S 149 [.str s,.int .i64 1]=some (.bool (clsB s),S):=λst S=>by
  rw[<-lett_cls]
  exact callD_pure rfl rfl (eq_of_wo (letters_d (k:=1) (by omega) hz)) rfl
 have:WO (dcall E (m+2) 107 [.str s] []) λd T=>d=.bool (clsB s)/\T=[]:=by
  refine wo_dcall Tryz.func107 rfl (by decide) rfl 5 rfl (λa hal ha=>?_)
  have h0:a[0]?=some _:=ha 0 (by simp)
  clear ha
  simp only[push_cast,decide_not,Yy,decide_eq_false_iff_not,bne_eq_false_iff_eq,beq_eq_false_iff_ne,Zx,ne_eq,hal,h0,q,Tryz.f107,↓WX,simprocAttr,WY]
 exact callD_pure rfl rfl (eq_of_wo this) rfl
/-! ### Classes that occur before -/
/-! ### The violations of the classes of a cabin -/
structure CfgZ (n:Nat) (c:Cfg):Prop where
 eq:c.equip.size+20<n/\c.equip.size<=9223372036854775807
 nm:∀y∈c.cabs,y.name.size+20<n/\y.name.size<=9223372036854775807
 cl:∀y∈c.cabs,∀z∈y.cls,z.code.size+20<n/\z.code.size<=9223372036854775807
namespace Wb
structure CfgB (c:Cfg):Prop where
 eq:c.equip.size<=1048576
 nm:∀y∈c.cabs,y.name.size<=1048576
 cl:∀y∈c.cabs,∀z∈y.cls,z.code.size<=1048576
 cabs:c.cabs.length<=262144
 cls:∀y∈c.cabs,y.cls.length<=1048576
theorem CfgB.z {c:Cfg} (h:CfgB c) {n:Nat} (hn:2000000<=n):CfgZ n c:=
 ⟨by have:=h.eq;omega,λy hy=>by have:=h.nm y hy;omega,λy hy z hz=>by have:=h.cl y hy z hz;omega⟩
def digs:ByteArray:=ByteArray.mk #[48,49,50,51,52,53,54,55,56,57]
theorem digW:∀(k:Nat) {n i:Nat},k<=10->i<10 ^ (k+1)->k+2<=n->∃s:ByteArray,s.size<=k+1/\∀st S,callD E (dcall E n) st S 101 [.int .u64 i]=some (.str s,S)
 |k,n,i,hk,hi,hn=>by
  obtain⟨m,rfl⟩:∃m,n=m+1:=⟨n-1,by omega⟩
  have hbig:10 ^ (k+1)<=10 ^ 11:=Nat.pow_le_pow_right (by omega) (by omega)
  have w1:∀j:Nat,j<10->IntKind.u64.wrap ((j:Int)+1)=(j:Int)+1:=λj hj=>Int.emod_eq_of_lt (by omega) (by show (j:Int)+1<18446744073709551616;omega)
  have s1:∀j:Nat,j<10->(ByteArray.extract digs j (j+1)).size=1:=λj hj=>by
   rw[ByteArray.size_extract]
   show min (j+1) 10-j=1
   omega
  by_cases h10:i<10
  ·have:WO (dcall E (m+1) 101 [.int .u64 i] []) λd T=>d=.str (ByteArray.extract digs i (i+1)):=by
    refine wo_dcall Tryz.func101 rfl (by decide) rfl 19 rfl (λa hal ha=>?_)
    have h0:a[0]?=some _:=ha 0 (by simp)
    clear ha
    have hc:(i:Int)<10:=by omega
    have q1:(0:Int)<=(i:Int)+1:=by omega
    have q2:((i:Int)+1).toNat=i+1:=by omega
    have q3:i<=i+1:=by omega
    have q4:i+1<=10:=by omega
    have q5:(ByteArray.mk #[48,49,50,51,52,53,54,55,56,57]).size=10:=rfl
    unfold digs
    simp only[push_cast,hal,h0,hc,w1 i h10,q1,q2,q3,q4,q5,Tryz.f101,↓WX,simprocAttr,WY]
   obtain⟨d,T,ho,rfl⟩:=this
   exact⟨_,by rw[s1 i h10];omega,λst S=>callD_pure rfl rfl ho rfl⟩
  ·obtain⟨k',rfl⟩:∃k',k=k'+1:=⟨k-1,by
    rcases Nat.eq_zero_or_pos k with rfl |h
    ·simp at hi;omega
    ·omega⟩
   obtain⟨s,hs,cs⟩:=digW k' (n:=m) (i:=i / 10) (by omega) (by rw[Nat.pow_succ]at hi;omega) (by omega)
   have hs2:=s1 (i % 10) (by omega)
   refine⟨s++ByteArray.extract digs (i % 10) (i % 10+1),by rw[ba_len,hs2];omega,?_⟩
   have:WO (dcall E (m+1) 101 [.int .u64 i] []) λd T=>d=.str (s++ByteArray.extract digs (i % 10) (i % 10+1)):=by
    refine wo_dcall Tryz.func101 rfl (by decide) rfl 19 rfl (λa hal ha=>?_)
    have h0:a[0]?=some _:=ha 0 (by simp)
    clear ha
    have hc:¬(i:Int)<10:=by omega
    obtain⟨r,hr⟩:∃r,r=i % 10:=⟨_,rfl⟩
    obtain⟨q,hq⟩:∃q,q=i / 10:=⟨_,rfl⟩
    have hrl:r<10:=by omega
    have t1:(i:Int).tmod 10=r:=by rw[hr];exact (Int.ofNat_tmod i 10).symm
    have t2:IntKind.u64.wrap ((i:Int).tdiv 10)=q:=by
     rw[Int.tdiv_eq_ediv_of_nonneg (by omega),show (i:Int) / 10=(q:Nat) by omega]
     exact Int.emod_eq_of_lt (by omega) (by show (q:Int)<18446744073709551616;omega)
    have m1:=mx_of (a:=s) (b:=ByteArray.extract digs r (r+1)) (by rw[s1 r hrl];omega)
    have q1:(0:Int)<=(r:Int)+1:=by omega
    have q2:((r:Int)+1).toNat=r+1:=by omega
    have q3:r<=r+1:=by omega
    have q4:r+1<=10:=by omega
    have q5:(ByteArray.mk #[48,49,50,51,52,53,54,55,56,57]).size=10:=rfl
    rw[<-hq]at cs
    rw[<-hr]
    unfold digs at m1 ⊢
    simp only[push_cast,Zx,hal,h0,hc,t1,t2,w1 r hrl,cs,m1,q1,q2,q3,q4,q5,Tryz.f101,↓WX,simprocAttr,WY]
   obtain⟨d,T,ho,rfl⟩:=this
   exact λst S=>callD_pure rfl rfl ho rfl
theorem rdecW {n i:Nat} (hn:20<=n) (hi:i<1000000000):∃s:ByteArray,s.size<=10/\∀st S,callD E (dcall E n) st S 42 [.int .i64 i]=some (.str s,S):=by
 obtain⟨m,rfl⟩:∃m,n=m+1:=⟨n-1,by omega⟩
 obtain⟨s,hs,cs⟩:=digW 9 (n:=m) (i:=i) (by omega) (by omega) (by omega)
 refine⟨s,hs,?_⟩
 have:WO (dcall E (m+1) 42 [.int .i64 i] []) λd T=>d=.str s:=by
  refine wo_dcall Tryz.func42 rfl (by decide) rfl 15 rfl (λa hal ha=>?_)
  have h0:a[0]?=some _:=ha 0 (by simp)
  clear ha
  have hc:¬(i:Int)<0:=by omega
  have w1:IntKind.u64.wrap (i:Int)=i:=Int.emod_eq_of_lt (by omega) (by show (i:Int)<18446744073709551616;omega)
  simp only[push_cast,hal,h0,hc,w1,cs,Tryz.f42,↓WX,simprocAttr]
 obtain⟨d,T,ho,rfl⟩:=this
 exact λst S=>callD_pure rfl rfl ho rfl
/-! ### Classes that occur before: one answer or the other -/
end Wb
end Go.Proofs.YtaklebjoenophaaGreat.Dm
