/-
  An argument of plain types, as it lies in memory, is a datum of the machine; and it reads as before where nothing old turned.
-/
import Derived.Test.YtaklebjoenophaaGreatDmR
import Derived.ChangeArms
import Derived.DataReads
import Derived.Carry
set_option linter.unusedSimpArgs false
set_option linter.unusedVariables false
namespace Go.Proofs.YtaklebjoenophaaGreat.Dm
open Go Go.RowKit

inductive TC (P:Program):TypeId→List D→Prop where
 |bool {t:TypeId} (ht:P.underlying t=some .bool) (b:Bool):TC P t [.bool b]
 |int {t:TypeId} {k:IntKind} {n:Int} (ht:P.underlying t=some (.int k)) (hw:(Lit.int k n).wf=true):TC P t [.int k n]
 |str {t:TypeId} {s:ByteArray} (ht:P.underlying t=some .string) (hs:s.size≤maxLen):TC P t [.str s]
 |nils {t e:TypeId} (ht:P.underlying t=some (.slice e)):TC P t [.nils]
 |sl {t e:TypeId} {es:List (List D)} {x:Bool} (ht:P.underlying t=some (.slice e)) (hl:es.length≤maxLen) (hes:∀(j:Nat) (c:List D),es[j]? =some c→TC P e c):TC P t [.sl (P.cellsOf e) es x]
 |struct {t:TypeId} {fs:Array Field} {cs:List D} (ht:P.underlying t=some (.struct fs)) (hl:cs.length=P.cellsOf t) (hf:∀f∈fs.toList,TC P f.type ((cs.drop f.offset).take (P.cellsOf f.type))):TC P t cs
 |array {t e:TypeId} {n:Nat} {cs:List D} (ht:P.underlying t=some (.array n e)) (hl:cs.length=P.cellsOf t) (hf:∀i,i<n→TC P e ((cs.drop (i*P.cellsOf e)).take (P.cellsOf e))):TC P t cs

def chainB (P:Program):Nat→List (TypeId×Nat)→Nat→Bool
 |o,[],tot=>o == tot
 |o,p::l,tot=>p.2 == o && chainB P (o+P.cellsOf p.1) l tot
def plainTs (P:Program) (ts:List TypeId):Bool:=
 ts.all fun t=>match P.underlying t with
  |some .bool |some (.int _) |some .string=>true
  |some (.slice e)=>ts.contains e && decide (0<P.cellsOf e)
  |some (.struct fs)=>fs.toList.all (fun f=>ts.contains f.type) && chainB P 0 (fs.toList.map fun f=>(f.type,f.offset)) (P.cellsOf t)
  |some (.array n e)=>ts.contains e && chainB P 0 ((List.range n).map fun i=>(e,i*P.cellsOf e)) (P.cellsOf t)
  |_=>false

theorem pureL_app:∀ {a b:List D},pureL a=true→pureL b=true→pureL (a++b)=true
 | [],b,_,h=>h
 |d::a,b,h,k=>by
  rw[List.cons_append,pureL] at*
  rw[Bool.and_eq_true]at h ⊢
  exact⟨h.1,pureL_app h.2 k⟩
theorem chain_le {P:Program}:∀ {l:List (TypeId×Nat)} {o tot:Nat},chainB P o l tot=true→o≤tot∧∀p∈l,o≤p.2∧p.2+P.cellsOf p.1≤tot
 | [],o,tot,h=>by
  simp[chainB]at h
  exact⟨by omega,fun p hp=>by cases hp⟩
 |q::l,o,tot,h=>by
  simp only[chainB,Bool.and_eq_true,beq_iff_eq]at h
  obtain⟨i1,i2⟩:=chain_le h.2
  refine⟨by omega,fun p hp=>?_⟩
  rcases List.mem_cons.1 hp with rfl |hp
  ·omega
  ·have:=i2 p hp;omega

/-! ### How much a datum holds -/
mutual
def bulkD:D→Nat
 | .str s=>s.size+1
 | .sl _ es _=>bulkLL es+1
 | .agg cs=>bulkL cs
 |_=>1
def bulkL:List D→Nat
 | []=>0
 |d::l=>bulkD d+bulkL l
def bulkLL:List (List D)→Nat
 | []=>0
 |c::l=>bulkL c+bulkLL l
end
mutual
def bulkW {H:Type}:DataW H→Nat
 | .lit (.string b)=>b.length+1
 | .slice es _=>bulkWs es+1
 | .agg ps=>bulkWs ps
 |_=>1
def bulkWs {H:Type}:List (DataW H)→Nat
 | []=>0
 |d::l=>bulkW d+bulkWs l
end
theorem bulkL_app (a b:List D):bulkL (a++b)=bulkL a+bulkL b:=by
 induction a with
 |nil=>simp[bulkL]
 |cons d a ih=>simp only[List.cons_append,bulkL,ih];omega
theorem bulkWs_eq {H:Type} (l:List (DataW H)):bulkWs l=(l.map bulkW).sum:=by
 induction l with
 |nil=>rfl
 |cons d l ih=>simp only[bulkWs,List.map_cons,List.sum_cons,ih]
theorem bulkLL_le {H:Type}:∀ {es:List (List D)} {ys:List (DataW H)},es.length=ys.length→(∀(i:Nat) c y,es[i]? =some c→ys[i]? =some y→bulkL c≤bulkW y)→bulkLL es≤bulkWs ys
 | [],[],_,_=>Nat.le_refl _
 |c::es,y::ys,hl,h=>by
  have h0:=h 0 c y rfl rfl
  have:=bulkLL_le (es:=es) (ys:=ys) (by simpa using hl) (fun i c y h1 h2=>h (i+1) c y (by simpa using h1) (by simpa using h2))
  simp only[bulkLL,bulkWs];omega
 | [],_::_,hl,_=>by simp at hl
 |_::_,[],hl,_=>by simp at hl

section
variable {H : Type} {enc : TypeId × Value → H} {P : Program} {W : World} {spare : Nat → Bool} {held : Bool} {I : Nat → Prop}
def Cells (P:Program) (W:World) (I:Nat→Prop) (t:TypeId) (cs:List Value) (B:Nat):Prop:=∃ds:List D,TC P t ds∧VRs W ⟨P,fun _=>none,I⟩ ds cs∧pureL ds=true∧ds.all D.one=true∧bulkL ds≤B

theorem cells_chain:∀ {l:List (TypeId×Nat)} {o tot:Nat} {cs:List Value} {bs:List Nat},chainB P o l tot=true→cs.length=tot→l.length≤bs.length→(∀(i:Nat) p b,l[i]? =some p→bs[i]? =some b→Cells P W I p.1 ((cs.drop p.2).take (P.cellsOf p.1)) b)→
  ∃ds:List D,ds.length=tot-o∧VRs W ⟨P,fun _=>none,I⟩ ds (cs.drop o)∧pureL ds=true∧ds.all D.one=true∧(∀p∈l,TC P p.1 ((ds.drop (p.2-o)).take (P.cellsOf p.1)))∧bulkL ds≤bs.sum
 | [],o,tot,cs,bs,h,hc,_,_=>by
  simp[chainB]at h
  refine⟨[],by simp;omega,?_,rfl,rfl,(fun p hp=>by cases hp),Nat.zero_le _⟩
  rw[List.drop_eq_nil_of_le (by omega)]
  exact VRs.nil
 |q::l,o,tot,cs,[],h,hc,hb,hp=>by simp at hb
 |q::l,o,tot,cs,b::bs,h,hc,hb,hp=>by
  have hle:=chain_le h
  simp only[chainB,Bool.and_eq_true,beq_iff_eq]at h
  obtain⟨rfl,h⟩:=h
  obtain⟨d0,t0,v0,p0,o0,b0⟩:=hp 0 q b rfl rfl
  obtain⟨ds,hl,hv,hpu,ho,ht,hbd⟩:=cells_chain (bs:=bs) h hc (by simpa using hb) (fun i p b h1 h2=>hp (i+1) p b (by simpa using h1) (by simpa using h2))
  have hq:=(hle.2 q (List.mem_cons.2 (.inl rfl))).2
  have hd0:d0.length=P.cellsOf q.1:=by
   rw[v0.1,List.length_take,List.length_drop];omega
  refine⟨d0++ds,by rw[List.length_append,hl,hd0];omega,?_,pureL_app p0 hpu,by rw[List.all_append,o0,ho];rfl,fun p hp'=>?_,by rw[bulkL_app,List.sum_cons];omega⟩
  ·have e:cs.drop q.2=(cs.drop q.2).take (P.cellsOf q.1)++cs.drop (q.2+P.cellsOf q.1):=by
    rw[←List.drop_drop,List.take_append_drop]
   rw[e]
   exact v0.append hv
  ·rcases List.mem_cons.1 hp' with rfl |hp'
   ·rw[Nat.sub_self,List.drop_zero,List.take_append_of_le_length (by omega),List.take_of_length_le (by omega)]
    exact t0
   ·have h1:=(chain_le h).2 p hp'
    have e:(d0++ds).drop (p.2-q.2)=ds.drop (p.2-(q.2+P.cellsOf q.1)):=by
     rw[List.drop_append,List.drop_eq_nil_of_le (by omega),List.nil_append]
     congr 1
     omega
    rw[e]
    exact ht p hp'
theorem some_of_lt {α:Type} {l:List α} {i:Nat} (h:i<l.length):∃c,l[i]? =some c:=⟨l[i],List.getElem?_eq_getElem h⟩
theorem pureLL_of:∀ {l:List (List D)},(∀c∈l,pureL c=true)→pureLL l=true
 | [],_=>rfl
 |c::l,h=>by
  rw[pureLL,h c (List.mem_cons.2 (.inl rfl)),pureLL_of fun d hd=>h d (List.mem_cons.2 (.inr hd))]
  rfl
theorem choose_list {α:Type} {p:Nat→α→Prop}:∀n,(∀i,i<n→∃x,p i x)→∃l:List α,l.length=n∧∀i x,l[i]? =some x→p i x
 |0,_=>⟨[],rfl,fun i x h=>by simp at h⟩
 |n+1,h=>by
  obtain⟨l,hl,hp⟩:=choose_list n (fun i hi=>h i (by omega))
  obtain⟨x,hx⟩:=h n (by omega)
  refine⟨l++[x],by simp[hl],fun i y hy=>?_⟩
  by_cases hi:i<l.length
  ·rw[List.getElem?_append_left hi]at hy;exact hp i y hy
  ·rw[List.getElem?_append_right (by omega)]at hy
   have:i-l.length=0:=by
    by_cases h0:i-l.length=0
    ·exact h0
    ·rw[List.getElem?_eq_none (by simp;omega)]at hy;cases hy
   rw[this]at hy
   cases hy
   rw[show i=n by omega]
   exact hx
theorem cells_of_trod {ts:List TypeId} (hts:plainTs P ts=true) (hI:∀g,g<W.heap.size→I g):∀(n:Nat) (t:TypeId) (cs:List Value) (x:DataW H×List MemPlace),t∈ts→DataW.trod enc P W 0 spare held n t cs=some x→Cells P W I t cs (bulkW x.1):=by
 intro n
 induction n with
 |zero=>intro t cs x _ h;simp[DataW.trod]at h
 |succ n ih=>
  intro t cs x ht h
  have hp:=List.all_eq_true.1 hts t ht
  cases hu:P.underlying t with
  |none=>rw[hu]at hp;cases hp
  |some u=>
   rw[hu]at hp
   cases u with
   |bool=>
    obtain⟨b,rfl,rfl⟩:=DataW.trod_bool hu h
    exact⟨[.bool b],.bool hu b,VRs.cons (.bool b) VRs.nil,rfl,rfl,Nat.le_refl _⟩
   |int k=>
    obtain⟨m,rfl,rfl,hw⟩:=DataW.trod_int hu h
    exact⟨[.int k m],.int hu hw,VRs.cons (.int k m) VRs.nil,rfl,rfl,Nat.le_refl _⟩
   |string=>
    obtain⟨s,rfl,rfl,hs⟩:=DataW.trod_string hu h
    exact⟨[.str s],.str hu hs,VRs.cons (.str s) VRs.nil,rfl,rfl,Nat.le_of_eq (by simp[bulkL,bulkD,bulkW])⟩
   |slice e=>
    simp only[Bool.and_eq_true,List.contains_iff_mem,decide_eq_true_eq]at hp
    rcases DataW.trod_slice hu h with ⟨rfl,rfl⟩ | ⟨a,len,cap,elems,rest,m,hm,rfl,rfl,-,hlc,hcm,hel,hx,-,-⟩
    ·exact⟨[.nils],.nils hu,VRs.cons .nils VRs.nil,rfl,rfl,Nat.le_refl _⟩
    ·obtain rfl:n=m:=by omega
     by_cases h0:len=0
     ·subst h0
      exact⟨[.sl (P.cellsOf e) [] false],.sl hu (Nat.zero_le _) (fun j c hj=>by simp at hj),VRs.cons (.sl0 (fun h=>by cases h)) VRs.nil,rfl,rfl,by simp[bulkL,bulkD,bulkLL,bulkW]⟩
     ·have one:∀i,i<len→∃ds:List D,TC P e ds∧ds.length=P.cellsOf e∧pureL ds=true∧ds.all D.one=true∧(∃cs',W.cells? 0 (a.add (i*P.cellsOf e)) (P.cellsOf e)=some cs'∧VRs W ⟨P,fun _=>none,I⟩ ds cs')∧∀y,(elems.map (·.1))[i]? =some y→bulkL ds≤bulkW y:=by
       intro i hi
       have hk:=hx i hi
       rw[List.getElem?_eq_getElem (by omega)]at hk
       obtain⟨cs',h1,h2⟩:=Option.bind_eq_some_iff.1 hk
       obtain⟨ds,d1,d2,d3,d4,d5⟩:=ih e cs' _ hp.1 h2
       exact⟨ds,d1,d2.1.trans (World.cells?_some h1).2.1,d3,d4,⟨cs',h1,d2⟩,fun y hy=>by
        rw[List.getElem?_map,List.getElem?_eq_getElem (by omega)]at hy
        obtain rfl:=Option.some.inj hy
        exact d5⟩
      obtain⟨es,hes,hE⟩:=choose_list len one
      have spot:a.spot=none:=by
       obtain⟨ds,-,-,-,-,⟨cs',hc,-⟩,-⟩:=one 0 (by omega)
       have h1:=(World.cells?_some hc).2.2 0 hp.2
       have hl:=(World.cells?_some hc).2.1
       rw[List.getElem?_eq_getElem (by omega)]at h1
       simp only[Nat.zero_mul,Addr.add,if_true,World.cell?]at h1
       split at h1
       ·cases hs:a.spot with
        |none=>rfl
        |some s=>rw[hs]at h1;simp at h1
       ·cases h1
      obtain⟨g,b,s⟩:=a
      simp only at spot
      subst spot
      have addr:∀i j (cs':List Value),W.cells? 0 ((⟨g,b,none⟩:Addr).add (i*P.cellsOf e)) (P.cellsOf e)=some cs'→j<P.cellsOf e→∃v,cs'[j]? =some v∧W.cell? ⟨g,b+(i*P.cellsOf e+j),none⟩=some v:=by
       intro i j cs' hc hj
       obtain⟨v,hv⟩:=some_of_lt (l:=cs') (i:=j) (by rw[(World.cells?_some hc).2.1];exact hj)
       refine⟨v,hv,?_⟩
       have h1:=(World.cells?_some hc).2.2 j hj
       rw[hv]at h1
       rw[←h1]
       congr 1
       unfold Addr.add
       split <;> split <;> simp_all <;> omega
      have hg:g<W.heap.size:=by
       obtain⟨c,hc0⟩:=some_of_lt (l:=es) (i:=0) (by omega)
       obtain⟨-,-,-,-,⟨cs',hc,-⟩,-⟩:=hE 0 c hc0
       obtain⟨v,-,h1⟩:=addr 0 0 cs' hc hp.2
       exact World.block_lt_of_cell? W _ h1
      refine⟨[.sl (P.cellsOf e) es false],.sl hu (by omega) (fun j c hj=>(hE j c hj).1),VRs.cons ?_ VRs.nil,?_,rfl,by
       have:=bulkLL_le (es:=es) (ys:=elems.map (·.1)) (by simp;omega) (fun i c y h1 h2=>(hE i c h1).2.2.2.2.2 y h2)
       simp only[bulkL,bulkD,bulkW];omega⟩
      ·rw[←hes]
       refine .sl (fun i j=>(((W.cells? 0 ((⟨g,b,none⟩:Addr).add (i*P.cellsOf e)) (P.cellsOf e))).getD [])[j]?.getD undef) (by omega) (hI g hg) (by omega) (fun h=>by cases h) (fun i c hc=>(hE i c hc).2.1) ?_ ?_ ?_
       ·intro i j hi hj
        obtain⟨c,hc0⟩:=some_of_lt hi
        obtain⟨-,-,-,-,⟨cs',hc,-⟩,-⟩:=hE i c hc0
        obtain⟨v,h1,h2⟩:=addr i j cs' hc hj
        rw[h2,hc,Option.getD_some,h1]
        rfl
       ·intro i j c d hi hj
        exact List.all_eq_true.1 (hE i c hi).2.2.2.1 d (List.mem_of_getElem? hj)
       ·intro i j c d hi hj
        obtain⟨-,-,-,-,⟨cs',hc,hv⟩,-⟩:=hE i c hi
        obtain⟨v,h1,h2⟩:=hv.get hj
        rw[hc,Option.getD_some,h1]
        exact h2
      ·rw[pureL,D.pure,pureL,Bool.and_true]
       exact pureLL_of fun c hc=>by
        obtain⟨i,hi⟩:=List.mem_iff_getElem?.1 hc
        exact (hE i c hi).2.2.1
   |struct fs=>
    simp only[Bool.and_eq_true]at hp
    obtain⟨xs,m,hm,rfl,hl,hxl,hx⟩:=DataW.trod_struct hu h
    obtain rfl:n=m:=by omega
    obtain⟨ds,d1,d2,d3,d4,d5,d6⟩:=cells_chain (W:=W) (I:=I) (bs:=xs.map fun y=>bulkW y.1) hp.2 hl (by simp;omega) (fun i p b hp' hb=>by
     rw[List.getElem?_map]at hp' hb
     obtain⟨f,hi,rfl⟩:=Option.map_eq_some_iff.1 hp'
     obtain⟨y,hy,rfl⟩:=Option.map_eq_some_iff.1 hb
     have hf:=List.mem_of_getElem? hi
     have:=hx i f (by simpa using hi)
     rw[hy]at this
     exact ih _ _ _ (by simpa using List.all_eq_true.1 hp.1 f hf) this)
    refine⟨ds,.struct hu (by omega) (fun f hf=>?_),by simpa using d2,d3,d4,by rw[bulkW,bulkWs_eq,List.map_map];exact d6⟩
    simpa using d5 (f.type,f.offset) (List.mem_map.2 ⟨f,hf,rfl⟩)
   |array k e=>
    simp only[Bool.and_eq_true,List.contains_iff_mem]at hp
    rw[DataW.trod_step]at h
    unfold DataW.trodStep at h
    rw[hu]at h
    simp only at h
    split at h
    ·rename_i hl
     obtain⟨xs,hxs,rfl⟩:=Option.map_eq_some_iff.1 h
     have hxl:=mapM_some_length hxs
     obtain⟨ds,d1,d2,d3,d4,d5,d6⟩:=cells_chain (W:=W) (I:=I) (bs:=xs.map fun y=>bulkW y.1) hp.2 hl (by simp at hxl ⊢;omega) (fun i p b hp' hb=>by
      rw[List.getElem?_map]at hp' hb
      obtain⟨j,hi,rfl⟩:=Option.map_eq_some_iff.1 hp'
      obtain⟨y,hy,rfl⟩:=Option.map_eq_some_iff.1 hb
      have:=mapM_some_get hxs i j hi
      rw[hy]at this
      exact ih _ _ _ hp.1 this)
     refine⟨ds,.array hu (by omega) (fun i hi=>?_),by simpa using d2,d3,d4,by rw[bulkW,bulkWs_eq,List.map_map];exact d6⟩
     simpa using d5 (e,i*P.cellsOf e) (List.mem_map.2 ⟨i,List.mem_range.2 hi,rfl⟩)
    ·cases h
   |_=>cases hp

def TV (P:Program) (t:TypeId) (d:D):Prop:=(aggT P t=some true∧∃ds,d=.agg ds∧TC P t ds)∨(aggT P t=some false∧TC P t [d])
theorem arg_of_trodB {ts:List TypeId} (hts:plainTs P ts=true) (hI:∀g,g<W.heap.size→I g) {r:Reach} {base:Nat} {t:TypeId} {v:Value} {d:DataW H} {ps:List MemPlace} (ht:t∈ts) (hv:Value.okWide P W r base t v) (h:DataW.Trod enc P W 0 spare held t v d ps):
  ∃x,TV P t x∧VR W ⟨P,fun _=>none,I⟩ x v∧x.pure=true∧bulkD x≤bulkW d:=by
 obtain⟨n,hn⟩:=h
 obtain⟨ds,h1,h2,h3,h4,h5⟩:=cells_of_trod hts hI n t _ _ ht hn
 by_cases hag:aggT P t=some true
 ·have:∃cs,v=.agg cs:=by
   unfold Value.okWide at hv
   unfold aggT at hag
   cases hu:P.underlying t with
   |none=>rw[hu]at hag;cases hag
   |some u=>
    rw[hu]at hv hag
    cases u <;> first | (cases hag;done) | (obtain⟨cs,h,-⟩:=hv;exact⟨cs,h⟩)
  obtain⟨cs,rfl⟩:=this
  have:=VR.agg_of h2
  exact⟨.agg ds,.inl ⟨hag,ds,rfl,h1⟩,by simpa [Value.cells] using this,by rw[D.pure];exact h3,by rw[bulkD];exact h5⟩
 ·have hag':aggT P t=some false:=by
   have hp:=List.all_eq_true.1 hts t ht
   unfold aggT at hag ⊢
   cases hu:P.underlying t with
   |none=>rw[hu]at hp;cases hp
   |some u=>
    rw[hu]at hp hag
    cases u <;> first |rfl | (cases hp;done) |exact absurd rfl hag
  have one:∃d,ds=[d]:=by
   cases h1 with
   |struct ht' _ _=>rw[aggT,ht']at hag';cases hag'
   |array ht' _ _=>rw[aggT,ht']at hag';cases hag'
   |_=>exact⟨_,rfl⟩
  obtain⟨d,rfl⟩:=one
  have hone:v.cells.toList=[v]:=by
   have hl:=h2.1
   cases v with
   |agg cs=>
    exfalso
    unfold Value.okWide at hv
    unfold aggT at hag'
    have hp:=List.all_eq_true.1 hts t ht
    cases hu:P.underlying t with
    |none=>rw[hu]at hp;cases hp
    |some u=>
     rw[hu]at hp hv hag'
     cases u <;> first | (cases hp;done) | (cases hag';done) |skip
     all_goals simp[Cell.okWide,Cell.ok,hu]at hv
   |_=>rfl
  rw[hone]at h2
  exact⟨d,.inr ⟨hag',h1⟩,h2.head,by rw[pureL,Bool.and_eq_true]at h3;exact h3.1,by simpa [bulkL] using h5⟩
inductive TVs (P:Program):List TypeId→List D→Prop where
 |nil:TVs P [] []
 |cons {t:TypeId} {ts:List TypeId} {d:D} {ds:List D} (h:TV P t d) (hs:TVs P ts ds):TVs P (t::ts) (d::ds)
theorem args_of_trodB {ts:List TypeId} (hts:plainTs P ts=true) (hI:∀g,g<W.heap.size→I g) {r:Reach} {base:Nat}:∀ {us:List TypeId} {vs:List Value} {ds:List (DataW H)} {ps:List MemPlace},(∀t∈us,t∈ts)→(∀(j:Nat) t v,us[j]? =some t→vs[j]? =some v→Value.okWide P W r base t v)→DataW.TrodAll enc P W 0 spare held us vs ds ps→
  ∃xs,TVs P us xs∧VRs W ⟨P,fun _=>none,I⟩ xs vs∧pureL xs=true∧bulkL xs≤bulkWs ds
 | [],[],[],_,_,_,_=>⟨[],.nil,VRs.nil,rfl,Nat.le_refl _⟩
 |t::us,v::vs,d::ds,ps,hus,hv,⟨p,q,h1,h2,e⟩=>by
  obtain⟨x,a1,a2,a3,a4⟩:=arg_of_trodB hts hI (hus t (List.mem_cons.2 (.inl rfl))) (hv 0 t v rfl rfl) h1
  obtain⟨xs,b1,b2,b3,b4⟩:=args_of_trodB hts hI (us:=us) (vs:=vs) (fun t h=>hus t (List.mem_cons.2 (.inr h))) (fun j t v h k=>hv (j+1) t v (by simpa using h) (by simpa using k)) h2
  exact⟨x::xs,.cons a1 b1,VRs.cons a2 b2,by rw[pureL,a3,b3];rfl,by simp only[bulkL,bulkWs];omega⟩
theorem stay_all (hl:laidOutB P=true) {W':World} (hb:Below W.heap.size W W'):∀ {us:List TypeId} {vs:List Value} {ds:List (DataW H)} {ps:List MemPlace},us.all (fun t=>P.readableRec t && decide (t<P.types.size))=true→DataW.TrodAll enc P W 0 (fun _=>true) true us vs ds ps→(∀x∈ps,x.block<W.heap.size)→
  DataW.TrodAll enc P W' 0 (fun b=>decide (b<W.heap.size)) true us vs ds ps
 | [],[],[],_,_,h,_=>h
 |t::us,v::vs,d::ds,ps,hr,⟨p,q,h1,h2,e⟩,hlt=>by
  rw[List.all_cons,Bool.and_eq_true,Bool.and_eq_true,decide_eq_true_eq]at hr
  subst e
  exact⟨p,q,Below.trod hl hr.1.1 hr.1.2 h1 hb (fun x hx=>hlt x (List.mem_append_left _ hx)),stay_all hl hb hr.2 h2 (fun x hx=>hlt x (List.mem_append_right _ hx)),rfl⟩
end
end Go.Proofs.YtaklebjoenophaaGreat.Dm
