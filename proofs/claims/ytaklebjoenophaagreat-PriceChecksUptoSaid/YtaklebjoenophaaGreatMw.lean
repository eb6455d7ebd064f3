/-
  Code whose way depends on the order of a map: what it does from a state of the machine, whichever way it goes.
  The machine with ranges over maps of one pair: what it hands back, the model's call hands back.
-/
import Derived.Test.YtaklebjoenophaaGreatDmH
import Derived.Maps.RangeRun
set_option linter.unusedSimpArgs false
set_option linter.unusedVariables false
namespace Go.Proofs.YtaklebjoenophaaGreat.Dm
open Go Go.RowKit
def MW (E:Env) (c:Code) (Q:DX->List D->List Ob->Prop) (act:List D) (S:List Ob):Prop:=
 ∀(W:World) (C:Cx) (a:Act),St E W C S act a->∀(Qm:Exit->Act->World->Prop),
  (∀e act' S' a' W' C',Q e act' S'->St E W' C' S' act' a'->Fr W C S W' C' S'->Qm (exitOf e) a' W')->c.wp E.P Qm a W
section
variable {E : Env} {act : List D} {S : List Ob} {Q : DX -> List D -> List Ob -> Prop}
theorem MW.of {call:Call} (hE:EnvOk E) (hC:CallOk E call) {n:Nat} {c:Code} (hl:linC E c=true) {e:DX} {act':List D} {S':List Ob} (h:Yr E call n c act S=some (e,act',S')) (hQ:Q e act' S'):MW E c Q act S:=
 λW C a hs Qm k=>code_wp hE hC c hl hs h λa' W' C' hs' hf'=>k _ _ _ _ _ _ hQ hs' hf'
theorem MW.mono {c:Code} {R:DX->List D->List Ob->Prop} (h:MW E c Q act S) (g:∀e a T,Q e a T->R e a T):MW E c R act S:=
 λW C a hs Qm k=>h W C a hs Qm λe a1 S1 a' W' C' hq hs' hf'=>k e a1 S1 a' W' C' (g _ _ _ hq) hs' hf'
def mwSeq (E:Env) (y:Code) (Q:DX->List D->List Ob->Prop):DX->List D->List Ob->Prop
 | .normal,a,T=>MW E y Q a T
 |e,a,T=>Q e a T
theorem MW.seq {x y:Code} (h:MW E x (mwSeq E y Q) act S):MW E (.seq x y) Q act S:=λW C a hs Qm k=>by
 refine wp_seq (h W C a hs _ λe a1 S1 a' W' C' hq hs' hf'=>?_)
 cases e with
 |normal=>exact hq W' C' a' hs' Qm λe2 a2 S2 a'' W'' C'' hq2 hs2 hf2=>k e2 a2 S2 a'' W'' C'' hq2 hs2 (hf'.trans hf2)
 |exit j=>exact k _ _ _ _ _ _ hq hs' hf'
 |ret=>exact k _ _ _ _ _ _ hq hs' hf'
def mwBlock (id:Nat) (Q:DX->List D->List Ob->Prop):DX->List D->List Ob->Prop
 | .exit j,a,T=>if j=id then Q .normal a T else Q (.exit j) a T
 |e,a,T=>Q e a T
theorem MW.block {id:Nat} {c:Code} (h:MW E c (mwBlock id Q) act S):MW E (.block id c) Q act S:=λW C a hs Qm k=>by
 refine wp_block (h W C a hs _ λe a1 S1 a' W' C' hq hs' hf'=>?_)
 cases e with
 |normal=>exact k .normal _ _ _ _ _ hq hs' hf'
 |exit j=>
  show Exit.inBlock id Qm (.exit j) a' W'
  unfold Exit.inBlock
  dsimp only
  unfold mwBlock at hq
  dsimp only at hq
  split at hq
  ·rename_i hj
   rw[if_pos hj]
   exact k .normal _ _ _ _ _ hq hs' hf'
  ·rename_i hj
   rw[if_neg hj]
   exact k (.exit j) _ _ _ _ _ hq hs' hf'
 |ret=>exact k .ret _ _ _ _ _ hq hs' hf'
theorem MW.cond {c:Operand} {x y:Code} {b:Bool} (hc:evD E act c=.bool b) (h:MW E (if b then x else y) Q act S):MW E (.cond c x y) Q act S:=λW C a hs Qm k=>by
 have hev:=hs.a.eval (E:=E) hs.g c
 generalize hv:a.eval c=v at hev
 rw[hc]at hev
 cases hev
 cases b
 ·exact wp_cond_false hv (h W C a hs Qm k)
 ·exact wp_cond_true hv (h W C a hs Qm k)
theorem MW.scope {c:Code} (h:MW E c Q act S):MW E (.scope c) Q act S:=λW C a hs Qm k=>by
 refine wp_scope_straight (h W C a hs _ λe a1 S1 a' W' C' hq hs' hf'=>?_)
 cases e <;> exact k _ _ _ _ _ _ hq hs' hf'
theorem calls_of_mw (hE:EnvOk E) {f:FuncId} {fn:Func} {c:Code} (hf:E.P.funcs[f]?=some fn) (hb:fn.body=some c) {args:List D} {R:D->List Ob->Prop}
  (h:MW E c (λe act T=>(e=.normal∨e=.ret)/\∃ds,resD E.P act T fn.results.toList=some ds/\R (tupD ds) T) (args++List.replicate (fn.ntmps-args.length) (.tup [])) S) {W:World} {C:Cx} {vargs:Array Value} (hs:SR W C S) (hP:C.P=E.P) (hG:GR W C E.G) (hv:VRs W C args vargs.toList):
  Calls E.P f vargs W λe W'=>∃v C' d T,e=.returned v/\R d T/\VR W' C' d v/\SR W' C' T/\Fr W C S W' C' T:=by
 have hlen:args.length=vargs.size:=by have:=hv.1;simpa using this
 have hst:St E W C S (args++List.replicate (fn.ntmps-args.length) (.tup [])) { tmps:=vargs++Array.replicate (fn.ntmps-vargs.size) undef,defers:=[] }:=by
  refine⟨hs,hP,hG,⟨?_,rfl⟩⟩
  rw[Array.toList_append,Array.toList_replicate,hlen]
  exact hv.append (VRs.replicate undef_vr _)
 refine calls_of_wp hf hb (h W C _ hst _ λe act' S' a' W' C' hq hs' hf'=>?_)
 obtain⟨he,ds,hds,hR⟩:=hq
 obtain⟨v,hr,hrv⟩:=results_run (P:=E.P) hs'.sr hs'.a.vals hds
 rcases he with rfl |rfl
 ·exact⟨hs'.a.defers,v,hr,v,C',_,_,rfl,hR,hrv,hs'.sr,hf'⟩
 ·exact⟨hs'.a.defers,v,hr,v,C',_,_,rfl,hR,hrv,hs'.sr,hf'⟩
end
/-! ### A range over a map -/
section
variable {E : Env} {call : Call} (hE : EnvOk E) (hC : CallOk E call)
include hE hC
theorem run_wp_k {st:Bool} {ops:Array Oper} {Q:Exit->Act->World->Prop} {m:Nat}:∀ {l:List Oper} {k:Nat} {act act':List D} {a:Act} {S S':List Ob} {W:World} {C:Cx},(∀j,j<l.length->l[j]?=ops[k+j]?)->St E W C S act a->runD E call st ops l act S=some (act',S')->
  (∀a' W' C',St E W' C' S' act' a'->Fr W C S W' C' S'->wpOps E.P ops Q (List.range' (k+l.length) m) a' W')->wpOps E.P ops Q (List.range' k (l.length+m)) a W
 | [],k,act,act',a,S,S',W,C,_,hs,h,hQ=>by
  simp[runD]at h
  obtain⟨rfl,rfl⟩:=h
  have:=hQ a W C hs (Fr.refl _ _ _)
  simpa using this
 |o::l,k,act,act',a,S,S',W,C,hl,hs,h,hQ=>by
  have ho:ops[k]?=some o:=by have:=hl 0 (by simp);simpa using this.symm
  have hl':∀j,j<l.length->l[j]?=ops[k+1+j]? :=λj hj=>by
   have:=hl (j+1) (by simpa using hj)
   rw[Ky]at this
   rw[this];congr 1;omega
  unfold runD at h
  split at h
  ·rename_i a1 S1 h1
   rw[Uu,show l.length+1+m=(l.length+m)+1 by omega,List.range'_succ]
   unfold wpOps
   rw[ho]
   dsimp only
   have:=step_wp hE hC hs h1 (K:=wpOps E.P ops Q (List.range' (k+1) (l.length+m))) (Q:=Q) (λa' W' C' hs' hf=>run_wp_k hl' hs' h (λa2 W2 C2 hs2 hf2=>by
    have:=hQ a2 W2 C2 hs2 (hf.trans hf2)
    rw[Uu,show k+(l.length+1)=k+1+l.length by omega]at this
    exact this))
   split
   ·rename_i hw;rw[if_pos hw]at this;exact .inl this
   ·rename_i hw;rw[if_neg hw]at this;exact this
  ·cases h
end
theorem wpOps_one {P:Program} {ops:Array Oper} {Q:Exit->Act->World->Prop} {k m:Nat} {o:Oper} (ho:ops[k]?=some o) (hg:o.guard=none) {a:Act} {W W':World} {v:Value} (h:(execOp a.eval o).run P W=.ok (.value v) W')
  (hn:wpOps P ops Q (List.range' (k+1) m) (a.put o.dst v) W'):wpOps P ops Q (List.range' k (m+1)) a W:=by
 rw[List.range'_succ]
 unfold wpOps
 rw[ho]
 dsimp only
 have hw:Region.wanted o (yielded ops a.tmps)=true:=by unfold Region.wanted;rw[hg]
 rw[if_pos hw]
 exact .inl (Ys h hn)
section
variable {E : Env} {act : List D} {S : List Ob} {W : World} {C : Cx} {a : Act}
theorem St.foreign (hs:St E W C S act a) {g:Nat} (hI:¬C.I g) (hl:¬Live C S g) (o':Obj) {w1:World} (hw:w1=W∨w1=W.drew):
  St E (ChangeMaps.setBlock w1 g o') C S act a/\(∀d v,VR W C d v->VR (ChangeMaps.setBlock w1 g o') C d v)/\(∀b,b≠g->(ChangeMaps.setBlock w1 g o').heap[b]?=W.heap[b]?)/\(ChangeMaps.setBlock w1 g o').heap.size=W.heap.size/\
   (∀W0 C0 S0,Fr W0 C0 S0 W C S->W0.heap.size<=g->Fr W0 C0 S0 (ChangeMaps.setBlock w1 g o') C S):=by
 have hh:w1.heap=W.heap:=by rcases hw with rfl |rfl <;> rfl
 have hkeep:∀b,b≠g->(ChangeMaps.setBlock w1 g o').heap[b]?=W.heap[b]? :=λb hb=>by
  show (w1.heap.setIfInBounds g o')[b]?=_
  rw[hh,Array.getElem?_setIfInBounds_ne (λe=>hb e.symm)]
 have hsz:(ChangeMaps.setBlock w1 g o').heap.size=W.heap.size:=by
  show (w1.heap.setIfInBounds g o').size=_
  rw[hh,Array.size_setIfInBounds]
 have hm:∀d v,VR W C d v->VR (ChangeMaps.setBlock w1 g o') C d v:=λd v hv=>VR.mono (λb hb=>⟨hb,hkeep b (λe=>hI (e ▸ hb))⟩) (λ_ _ h=>h) hv
 refine⟨⟨⟨λk ob hk ho=>?_,hs.sr.fresh,hs.sr.inj,λb hb=>by rw[hsz];exact hs.sr.imm b hb⟩,hs.p,λb cs hb=>hm _ _ (hs.g b cs hb),⟨hs.a.vals.mono hm,hs.a.defers⟩⟩,hm,hkeep,hsz,λW0 C0 S0 hf hb=>?_⟩
 ·obtain⟨g',sz,tot,T,h1,h2,h3,h4⟩:=hs.sr.ob k ob hk ho
  have hne:g'≠g:=λe=>hl (e ▸ ⟨k,ob,sz,tot,T,hk,ho,h1⟩)
  exact⟨g',sz,tot,T,h1,h2.mono rfl (hkeep g' hne) hm,h3,by rw[hsz];exact h4⟩
 ·have ho:(ChangeMaps.setBlock w1 g o').os=W.os:=by rcases hw with rfl |rfl <;> rfl
  have ht:(ChangeMaps.setBlock w1 g o').tape=W.tape:=by rcases hw with rfl |rfl <;> rfl
  have hp:(ChangeMaps.setBlock w1 g o').output=W.output:=by rcases hw with rfl |rfl <;> rfl
  exact⟨ho.trans hf.os,ht.trans hf.tape,hp.trans hf.output,by rw[hsz];exact hf.size,λb hlt hn=>(hkeep b (by omega)).trans (hf.keep b hlt hn),hf.live,hf.R,hf.I,hf.P,hf.newI,hf.len,hf.newR⟩
theorem SR.revive (h:SR W C S) {r:Nat} {ob:Ob} {g sz tot:Nat} {T:TypeId} (hr:S[r]?=some .dead) (hR:C.R r=some (g,sz,tot,T)) (hob:ObR W C g sz tot T ob) (hI:¬C.I g) (hg:g<W.heap.size) (hn:¬Live C S g):
  SR W C (S.set r ob)/\∀W0 C0 S0,Fr W0 C0 S0 W C S->(Live C0 S0 g∨W0.heap.size<=g)->Fr W0 C0 S0 W C (S.set r ob):=by
 refine⟨⟨λk o hk ho=>?_,λk x hx=>by rw[Ux];exact h.fresh k x hx,λk k' o o' x x' hk ho hk' ho' hx hx' e=>?_,h.imm⟩,λW0 C0 S0 hf hl=>?_⟩
 ·rcases Zv hk with ⟨rfl,rfl,-⟩ | ⟨-,hk⟩
  ·exact⟨g,sz,tot,T,hR,hob,hI,hg⟩
  ·exact h.ob k o hk ho
 ·rcases Zv hk with ⟨e1,-,-⟩ | ⟨hne,hk2⟩ <;> rcases Zv hk' with ⟨e2,-,-⟩ | ⟨hne',hk2'⟩
  ·rw[e1,e2]
  ·rw[e1,hR]at hx
   cases hx
   dsimp only at e
   obtain⟨g',s',t',T',q1,-,-,-⟩:=h.ob k' o' hk2' ho'
   rw[q1]at hx'
   cases hx'
   dsimp only at e
   exact absurd ⟨k',o',s',t',T',hk2',ho',by rw[q1,<-e]⟩ hn
  ·rw[e2,hR]at hx'
   cases hx'
   dsimp only at e
   obtain⟨g',s',t',T',q1,-,-,-⟩:=h.ob k o hk2 ho
   rw[q1]at hx
   cases hx
   dsimp only at e
   exact absurd ⟨k,o,s',t',T',hk2,ho,by rw[q1,e]⟩ hn
  ·exact h.inj k k' o o' x x' hk2 ho hk2' ho' hx hx' e
 ·refine⟨hf.os,hf.tape,hf.output,hf.size,hf.keep,λb hb=>?_,hf.R,hf.I,hf.P,hf.newI,by rw[Ux];exact hf.len,hf.newR⟩
  obtain⟨k,o,s',t',T',h1,h2,h3⟩:=hb
  rcases Zv h1 with ⟨rfl,-,-⟩ | ⟨-,h1⟩
  ·rw[hR]at h3
   cases h3
   exact hl
  ·exact hf.live b ⟨k,o,s',t',T',h1,h2,h3⟩
end
def Itr (W:World) (C:Cx) (S:List Ob) (base r k:Nat) (kt:TypeId) (l todo:List (D×D)):Prop:=
 ∃(g gm sz tot s2 t2:Nat) (T T2:TypeId) (es:Array MapEntry) (clock since last:Nat) (seen:Array Nat),
  (C.R k=some (g,s2,t2,T2)/\C.R r=some (gm,sz,tot,T)/\ObR W C gm sz tot T (.map kt l))/\(¬C.I g/\¬C.I gm/\¬Live C S g/\¬Live C S gm/\g<W.heap.size/\gm<W.heap.size/\base<=g/\g≠gm)/\
  W.heap[gm]?=some (.map es clock)/\W.heap[g]?=some (.mapIter (some gm) since seen last)/\(since<=last/\since<=clock)/\(∀e∈es.toList,e.born<since)/\(es.toList.map (·.born)).Nodup/\todo.length=(leftOf es seen).size/\
  ∀(i:Nat) (p:D×D) (e:MapEntry),todo[i]?=some p->(leftOf es seen)[i]?=some e->VR W C p.1 e.key/\VR W C p.2 e.val
theorem Itr.fr {W W':World} {C C':Cx} {S S':List Ob} {base r k:Nat} {kt:TypeId} {l todo:List (D×D)} (h:Itr W C S base r k kt l todo) (hs:SR W C S) (hf:Fr W C S W' C' S'):Itr W' C' S' base r k kt l todo:=by
 obtain⟨g,gm,sz,tot,s2,t2,T,T2,es,clock,since,last,seen,⟨h1,h2,h3⟩,⟨h4,h5,h6,h7,h8,h9,h10,h11⟩,h12,h13,h14,h15,h16,h17,h18⟩:=h
 have kg:=hf.keep g h8 h6
 have km:=hf.keep gm h9 h7
 have hm:∀d v,VR W C d v->VR W' C' d v:=λd v hv=>hf.vr hs hv
 exact⟨g,gm,sz,tot,s2,t2,T,T2,es,clock,since,last,seen,⟨hf.R _ _ h1,hf.R _ _ h2,h3.mono hf.P km hm⟩,⟨λq=>(hf.newI g q).elim h4 (by omega),λq=>(hf.newI gm q).elim h5 (by omega),λq=>(hf.live g q).elim h6 (by omega),λq=>(hf.live gm q).elim h7 (by omega),Nat.lt_of_lt_of_le h8 hf.size,Nat.lt_of_lt_of_le h9 hf.size,h10,h11⟩,km.trans h12,kg.trans h13,h14,h15,h16,h17,λi p e hp he=>⟨hm _ _ (h18 i p e hp he).1,hm _ _ (h18 i p e hp he).2⟩⟩
theorem filter_erase {α:Type} (f:α->Nat):∀(l:List α),(l.map f).Nodup->∀(j:Nat) (x:α),l[j]?=some x->l.filter (λy=> !(f y == f x))=l.eraseIdx j
 | [],_,j,x,h=>by simp at h
 |y::l,hn,0,x,h=>by
  have e:y=x:=by simpa using h
  subst e
  rw[Uy,List.nodup_cons]at hn
  rw[List.eraseIdx_cons_zero,List.filter_cons_of_neg (by simp)]
  refine List.filter_eq_self.2 λz hz=>?_
  have:f z≠f y:=λe=>hn.1 (e ▸ List.mem_map_of_mem hz)
  simpa using this
 |y::l,hn,j+1,x,h=>by
  rw[Uy,List.nodup_cons]at hn
  have hx:l[j]?=some x:=by simpa using h
  have hne:f y≠f x:=λe=>hn.1 (e ▸ List.mem_map_of_mem (Kx hx))
  rw[List.eraseIdx_cons_succ,List.filter_cons_of_pos (by simpa using hne),filter_erase f l hn.2 j x hx]
theorem left_push {es:Array MapEntry} {seen:Array Nat} (hn:(es.toList.map (·.born)).Nodup) {j:Nat} {e:MapEntry} (he:(leftOf es seen).toList[j]?=some e):(leftOf es (seen.push e.born)).toList=(leftOf es seen).toList.eraseIdx j:=by
 have h1:(leftOf es (seen.push e.born)).toList=(leftOf es seen).toList.filter λy=> !(y.born == e.born):=by
  unfold leftOf
  rw[Array.toList_filter,Array.toList_filter,List.filter_filter]
  refine List.filter_congr λy _=>?_
  rw[contains_push]
  cases seen.contains y.born <;> cases (y.born == e.born) <;> rfl
 rw[h1]
 refine filter_erase (·.born) _ ?_ j e he
 unfold leftOf
 rw[Array.toList_filter]
 exact hn.sublist (List.filter_sublist.map _)
theorem Itr.next {E:Env} {W:World} {C:Cx} {S:List Ob} {act:List D} {a:Act} {base r k:Nat} {kt:TypeId} {l todo:List (D×D)} (h:Itr W C S base r k kt l todo) (hs:St E W C S act a) {v:Value} (hv:VR W C (.loc k 0 0) v) (ty:TypeId):
  (todo=[]/\(Instr.next v false ty).run E.P W=.ok (.tuple #[.bool false]) W)∨
  ∃j p vk vv W2,todo[j]?=some p/\(Instr.next v false ty).run E.P W=.ok (.tuple #[.bool true,vk,vv]) W2/\(Instr.entry v).run E.P W2=.ok (.tuple #[vk,vv]) W2/\VR W2 C p.1 vk/\VR W2 C p.2 vv/\St E W2 C S act a/\Itr W2 C S base r k kt l (todo.eraseIdx j)/\∀W0 C0 S0,Fr W0 C0 S0 W C S->W0.heap.size<=base->Fr W0 C0 S0 W2 C S:=by
 obtain⟨g,gm,sz,tot,s2,t2,T,T2,es,clock,since,last,seen,⟨h1,h2,h3⟩,⟨h4,h5,h6,h7,h8,h9,h10,h11⟩,h12,h13,h14,h15,h16,h17,h18⟩:=h
 cases hv with
 |loc hr=>
  rw[h1]at hr
  cases hr
  rw[Nat.zero_mul]
  rcases run_next_at (P:=E.P) W ty g gm since last seen es clock h13 h12 h15 h14.1 with ⟨hz,hrun⟩ | ⟨e,he,w1,hw,hrun⟩
  ·exact .inl ⟨Ug (by rw[h17,hz]),hrun⟩
  ·obtain⟨j,hj⟩:=Vv.1 he
   have hjl:j<todo.length:=by
    rw[h17]
    have:=(Kr.1 hj).1
    simpa using this
   have hp:todo[j]?=some todo[j]:=Uh hjl
   have hje:(leftOf es seen)[j]?=some e:=by rw[<-Ul];exact hj
   obtain⟨f1,f2,f3,f4,f5⟩:=hs.foreign h4 h6 (.mapIter (some gm) since (seen.push e.born) clock) hw
   have hgm:(ChangeMaps.setBlock w1 g (.mapIter (some gm) since (seen.push e.born) clock)).heap[gm]?=some (.map es clock):=(f3 gm (λe=>h11 e.symm)).trans h12
   have hg2:(ChangeMaps.setBlock w1 g (.mapIter (some gm) since (seen.push e.born) clock)).heap[g]?=some (.mapIter (some gm) since (seen.push e.born) clock):=by
    have hh:w1.heap=W.heap:=by rcases hw with rfl |rfl <;> rfl
    show (w1.heap.setIfInBounds g _)[g]?=_
    rw[hh,Array.getElem?_setIfInBounds_self_of_lt h8]
   have hme:=mem_left he
   have hentry:=run_entry_at (P:=E.P) _ g gm since seen es clock e hg2 hgm hme.1 h16
   have hv2:=h18 j _ e hp hje
   have hlp:=left_push h16 hj
   refine .inr ⟨j,_,_,_,_,hp,hrun,hentry,f2 _ _ hv2.1,f2 _ _ hv2.2,f1,⟨g,gm,sz,tot,s2,t2,T,T2,es,clock,since,clock,seen.push e.born,⟨h1,h2,h3.mono rfl (f3 gm (λe=>h11 e.symm)) f2⟩,⟨h4,h5,h6,h7,by rw[f4];exact h8,by rw[f4];exact h9,h10,h11⟩,hgm,hg2,⟨h14.2,h14.2⟩,h15,h16,?_,λi p e' hp' he'=>?_⟩,λW0 C0 S0 hf hb=>f5 W0 C0 S0 hf (Vk hb h10)⟩
   ·rw[List.length_eraseIdx_of_lt hjl,h17,<-Array.length_toList,<-Array.length_toList,hlp,List.length_eraseIdx_of_lt (by rw[Array.length_toList,<-h17];exact hjl)]
   ·rw[<-Ul,hlp,List.getElem?_eraseIdx]at he'
    rw[List.getElem?_eraseIdx]at hp'
    split at hp'
    ·rename_i hij
     rw[if_pos hij]at he'
     have:=h18 i p e' hp' (by rw[<-Ul];exact he')
     exact⟨f2 _ _ this.1,f2 _ _ this.2⟩
    ·rename_i hij
     rw[if_neg hij]at he'
     have:=h18 (i+1) p e' hp' (by rw[<-Ul];exact he')
     exact⟨f2 _ _ this.1,f2 _ _ this.2⟩
theorem Itr.fresh {W:World} {C:Cx} {S:List Ob} {r:Nat} {kt t et:TypeId} {l:List (D×D)} {P:Program} (h:SR W C S) (hu:P.underlying t=some (.map kt et)) (hr:S[r]?=some (.map kt l)) {v:Value} (hv:VR W C (.map r) v):
  ∃m u W' C',m.Perm l/\(Instr.range t v).run P W=.ok u W'/\VR W' C' (.loc S.length 0 0) u/\SR W' C' (S.set r .dead++[.dead])/\Fr W C S W' C' (S.set r .dead++[.dead])/\Itr W' C' (S.set r .dead++[.dead]) W.heap.size r S.length kt l m:=by
 cases hv with
 |map hrr=>
  rename_i gm sz tot T
  have hat:=h.at hr (by simp) hrr
  obtain⟨es,clock,m,hb,hperm,hst,hlen,hok,hpw,hval⟩:=id hat.1
  have hrl:r<S.length:=(Kr.1 hr).1
  obtain⟨k1,k2⟩:=h.kill r
  obtain⟨l1,l2⟩:=k1.lay 1
  have hlen':(S.set r Ob.dead).length=S.length:=Ux
  have hRn:C.R S.length=none:=by
   cases e:C.R S.length with
   |none=>rfl
   |some x=>have:=h.fresh _ x e;omega
  have hdead:(S.set r Ob.dead++List.replicate 1 Ob.dead)[S.length]?=some .dead:=by rw[<-hlen'];simp
  have hkeep:∀b,b<W.heap.size->(W.alloc (.mapIter (some gm) clock #[] clock)).heap[b]?=W.heap[b]? :=λb hb=>Below.heap_alloc W _ b hb
  obtain⟨p1,p2,p3⟩:=l1.pushAt (W':=W.alloc (.mapIter (some gm) clock #[] clock)) hdead hRn (ob':=.dead) (g:=W.heap.size) (sz:=0) (tot:=0) (T:=0) rfl rfl rfl (by simp) hkeep (Uk _) (by simp) (λ_=>trivial)
  have hset:(S.set r Ob.dead++List.replicate 1 Ob.dead).set S.length .dead=S.set r .dead++[.dead]:=by
   rw[<-hlen'];simp
  rw[hset]at p1 p3
  have hfr:Fr W C S (W.alloc (.mapIter (some gm) clock #[] clock)) (C.add S.length (W.heap.size,0,0,0)) (S.set r .dead++[.dead]):=by
   refine⟨rfl,rfl,rfl,by simp,λb hb _=>hkeep b hb,λb hb=>?_,λk x hx=>?_,λ_ h=>h,rfl,λ_ h=>.inl h,by simp,λk x hx=>Cx.add_new hx⟩
   ·rcases p3 b hb with hb |hb
    ·exact k2.live b (l2.live b hb |>.elim id λh=>by
      exfalso
      have:=l1.live_lt hb
      omega) |>.elim .inl .inr
    ·exact .inr hb
   ·exact Cx.add_old h _ hx
  have hgm0:¬Live C (S.set r .dead) gm:=by
   rintro⟨k,o,s',t',T',q1,q2,q3⟩
   rcases Zv q1 with ⟨-,rfl,-⟩ | ⟨hne,q1⟩
   ·exact q2 rfl
   ·exact hne (h.inj k r o _ _ _ q1 q2 hr (by simp) q3 hrr rfl)
  have hliv:∀b,Live (C.add S.length (W.heap.size,0,0,0)) (S.set r .dead++[.dead]) b->Live C (S.set r .dead) b:=by
   rintro b ⟨k,o,s',t',T',q1,q2,q3⟩
   rcases Kh q1 with ⟨-,rfl⟩ | ⟨hl,q1⟩
   ·exact absurd rfl q2
   ·rw[hlen']at hl
    refine⟨k,o,s',t',T',q1,q2,?_⟩
    simpa [Cx.add,Nat.ne_of_lt hl] using q3
  refine⟨m,_,_,_,hperm,run_range_map W t kt et _ es clock hu hb,?_,p1,hfr,W.heap.size,gm,sz,tot,0,0,T,0,es,clock,clock,clock,#[],⟨Cx.add_same _ _ _,Cx.add_old h _ hrr,?_⟩,⟨λq=>?_,hat.2.1,λq=>?_,λq=>hgm0 (hliv _ q),by simp,?_,Uk _,?_⟩,(hkeep gm hat.2.2).trans hb,heap_alloc_new W _,⟨Uk _,Uk _⟩,hst.2,hst.1,?_,λi p e hp he=>?_⟩
  ·have:=VR.loc (W:=W.alloc (.mapIter (some gm) clock #[] clock)) (C:=C.add S.length (W.heap.size,0,0,0)) (k:=S.length) (i:=0) (o:=0) (Cx.add_same _ _ _)
   simpa using this
  ·exact hat.1.mono rfl (hkeep gm hat.2.2) p2
  ·have:=h.imm _ q;omega
  ·have:=k1.live_lt (hliv _ q)
   omega
  ·simp;have:=hat.2.2;omega
  ·have:=hat.2.2;omega
  ·rw[hlen]
   unfold leftOf
   have:(es.filter λe=> !(#[]:Array Nat).contains e.born)=es:=Array.filter_eq_self.2 (λx _=>by simp)
   rw[this]
  ·have:leftOf es #[]=es:=by
    unfold leftOf
    exact Array.filter_eq_self.2 (λx _=>by simp)
   rw[this]at he
   have:=hval i p e hp he
   exact⟨p2 _ _ this.1,p2 _ _ this.2⟩
theorem perm_erase {α:Type}:∀ {l:List α} {j:Nat} {p:α},l[j]?=some p->(p::l.eraseIdx j).Perm l
 | [],j,p,h=>by simp at h
 |x::l,0,p,h=>by
  have e:x=p:=by simpa using h
  subst e
  exact List.Perm.refl _
 |x::l,j+1,p,h=>by
  rw[List.eraseIdx_cons_succ]
  exact (List.Perm.swap x p _).trans ((perm_erase (by simpa using h)).cons x)
theorem VR.loc_inj {W W':World} {C:Cx} {k i o:Nat} {u v:Value} (h:VR W C (.loc k i o) u) (g:VR W' C (.loc k i o) v):u=v:=by
 cases h with
 |loc h1=>cases g with
  |loc h2=>rw[h1]at h2;cases h2;rfl
section
variable {E : Env} {call : Call} (hE : EnvOk E) (hC : CallOk E call)
include hE hC
theorem MW.range {n i4 i5 i6 b0 b1 it tn tk te:Nat} {ops4 ops5 ops6:Array Oper} {pre rest6:List Oper} {o4 o5 o5' o6:Oper} {x4:Operand} {t4 kt et:TypeId} {REST:Code}
  (h4:ops4.toList=pre++[o4]) (q4:o4.op=.range t4 x4/\o4.guard=none/\o4.dst=some it)
  (h5:ops5.toList=[o5,o5']) (q5:o5.op=.next (.tmp it) false/\o5.guard=none/\o5.dst=some tn) (q5':o5'.op=.extract (.tmp tn) 0/\o5'.guard=none/\o5'.dst=some tk)
  (h6:ops6.toList=o6::rest6) (q6:o6.op=.entry (.tmp it)/\o6.guard=none/\o6.dst=some te) (hne:it≠tn/\it≠tk/\it≠te)
  (hlin:linC E REST=true) (hu:E.P.underlying t4=some (.map kt et))
  {act act1:List D} {S S1:List Ob} {r:Nat} {l:List (D×D)} (hpre:runD E call false ops4 pre act S=some (act1,S1)) (hx:evD E act1 x4=.map r) (hr:S1[r]?=some (.map kt l))
  (I:List (D×D)->List (D×D)->List D->List Ob->Prop) {Q:DX->List D->List Ob->Prop}
  (h0:∀m,m.Perm l->I [] m (act1.set it (.loc S1.length 0 0)) (S1.set r .dead++[.dead]))
  (hI:∀done todo a T,I done todo a T->a[it]?=some (.loc S1.length 0 0)/\tn<a.length/\tk<a.length/\T[r]?=some .dead)
  (hstep:∀done todo j p a T,(done++todo).Perm l->I done todo a T->todo[j]?=some p->∃a2 T2,runD E call false ops6 rest6 (((a.set tn (.tup [.bool true,p.1,p.2])).set tk (.bool true)).set te (.tup [p.1,p.2])) T=some (a2,T2)/\
   ∃a3 T3,Yr E call n REST a2 T2=some (.normal,a3,T3)/\I (done++[p]) (todo.eraseIdx j) a3 T3)
  (hend:∀done a T,done.Perm l->I done [] a T->Q .normal ((a.set tn (.tup [.bool false])).set tk (.bool false)) (T.set r (.map kt l))):
  MW E (.seq (.region i4 ops4 false) (.block b0 (.loop (.seq (.region i5 ops5 false) (.seq (.cond (.tmp tk) .skip (.exit b0)) (.block b1 (.seq (.region i6 ops6 false) REST))))))) Q act S:=by
 intro W C a hs Qm kQ
 refine wp_seq (wp_region ?_)
 have hsz4:ops4.size=pre.length+1:=by rw[<-Array.length_toList,h4];simp
 rw[List.range_eq_range',hsz4]
 have g4:∀j,ops4[j]?=(pre++[o4])[j]? :=λj=>by rw[<-Ul,h4]
 refine run_wp_k hE hC (l:=pre) (k:=0) (λj hj=>by rw[Nat.zero_add,g4,Ut hj]) hs hpre λa1 W1 C1 hs1 hf1=>?_
 have hxv:=hx ▸ hs1.a.eval hs1.g x4
 obtain⟨m,u,W2,C2,hm,hrun,hvu,hsr2,hf2,hit⟩:=Itr.fresh hs1.sr hu hr hxv
 rw[Nat.zero_add]
 refine wpOps_one (o:=o4) (by rw[g4];simp) q4.2.1 (v:=u) (W':=W2) (by simp only[execOp,q4.1,Sem.run_bind,hrun,Result.andThen_ok,Sem.run_pure]) ?_
 have hs2:St E W2 C2 (S1.set r .dead++[.dead]) (act1.set it (.loc S1.length 0 0)) (a1.put o4.dst u):=by
  rw[q4.2.2]
  exact⟨hsr2,hf2.P.trans hs1.p,hs1.g.fr hs1.sr hf2,(hs1.a.fr hs1.sr hf2).put (some it) hvu⟩
 show (Code.block b0 _).wp E.P _ _ _
 refine wp_block ?_
 refine wp_loop_ix (λN b w=>∃done todo act' T C',N=todo.length/\(done++todo).Perm l/\I done todo act' T/\St E w C' T act' b/\Fr W C S w C' T/\Itr w C' T W1.heap.size r S1.length kt l todo/\∀k x,C1.R k=some x->C'.R k=some x) ?_ (n:=m.length) ⟨[],m,_,_,C2,rfl,by simpa using hm,h0 m hm,hs2,hf1.trans hf2,hit,hf2.R⟩
 rintro N b w ⟨done,todo,act',T,C',rfl,hperm,hinv,hst,hfr,hitr,hRR⟩
 obtain⟨e1,e2,e3,e4⟩:=hI _ _ _ _ hinv
 have g5:∀j,ops5[j]?=[o5,o5'][j]? :=λj=>by rw[<-Ul,h5]
 have g6:∀j,ops6[j]?=(o6::rest6)[j]? :=λj=>by rw[<-Ul,h6]
 have hsz5:ops5.size=1+1:=by rw[<-Array.length_toList,h5];rfl
 have hsz6:ops6.size=rest6.length+1:=by rw[<-Array.length_toList,h6];rfl
 have hitv:VR w C' (.loc S1.length 0 0) (b.eval (.tmp it)):=by
  have:=hst.a.eval (E:=E) hst.g (.tmp it)
  simpa [evD,e1] using this
 refine wp_seq (wp_region ?_)
 rw[List.range_eq_range',hsz5]
 have second:∀ {flag:Bool} {ds:List D} {w':World} {v:Value},St E w' C' T act' b->VR w' C' (.tup (.bool flag::ds)) v->∀ {Q':Exit->Act->World->Prop},(∀b2,St E w' C' T ((act'.set tn (.tup (.bool flag::ds))).set tk (.bool flag)) b2->Q' .normal b2 w')->wpOps E.P ops5 Q' (List.range' (0+1) 1) (b.put o5.dst v) w':=by
  intro flag ds w' v hst' hv Q' hQ'
  have hstn:St E w' C' T (act'.set tn (.tup (.bool flag::ds))) (b.put o5.dst v):=by
   rw[q5.2.2]
   exact⟨hst'.sr,hst'.p,hst'.g,hst'.a.put (some tn) hv⟩
  have hev:=hstn.a.eval (E:=E) hstn.g (.tmp tn)
  have hed:evD E (act'.set tn (.tup (.bool flag::ds))) (.tmp tn)=.tup (.bool flag::ds):=by simp[evD,e2]
  rw[hed]at hev
  obtain⟨vs,hvs,hrs⟩:=hev.of_tup
  obtain⟨u,hu,hru⟩:=hrs.get (j:=0) rfl
  cases hru
  rw[Ul]at hu
  refine wpOps_one (m:=0) (o:=o5') (by rw[g5];rfl) q5'.2.1 (v:=.bool flag) (W':=w') (by simp only[execOp,q5'.1,Instr.extract,hvs,hu,Sem.run_bind,Result.andThen_ok,Sem.run_pure]) ?_
  refine hQ' _ ?_
  rw[q5'.2.2]
  exact⟨hstn.sr,hstn.p,hstn.g,hstn.a.put (some tk) (.bool flag)⟩
 have hck:∀ {flag:Bool} {w':World} {C2:Cx} {T2:List Ob} {b2:Act} {ds:List D},St E w' C2 T2 ((act'.set tn (.tup (.bool flag::ds))).set tk (.bool flag)) b2->b2.eval (.tmp tk)=.bool flag:=by
  intro flag w' C2 T2 b2 ds hst'
  have:=hst'.a.eval (E:=E) hst'.g (.tmp tk)
  have hed:evD E ((act'.set tn (.tup (.bool flag::ds))).set tk (.bool flag)) (.tmp tk)=.bool flag:=by simp[evD,e3]
  rw[hed]at this
  generalize b2.eval (.tmp tk)=q at this
  cases this
  rfl
 rcases hitr.next hst hitv o5.type with ⟨rfl,hrn⟩ | ⟨j,p,vk,vv,w2,hj,hrn,hre,hvk,hvv,hst2,hitr2,hfr2⟩
 ·have hv2:VR w C' (.tup [.bool false]) (.tuple #[.bool false]):=VR.tup_of (VRs.cons (.bool _) VRs.nil)
  refine wpOps_one (o:=o5) (by rw[g5];rfl) q5.2.1 (v:=.tuple #[.bool false]) (W':=w) (by simp only[execOp,q5.1,Sem.run_bind,hrn,Result.andThen_ok,Sem.run_pure]) ?_
  refine second hst hv2 λb2 hb2=>?_
  refine wp_seq (wp_cond_false (hck hb2) (wp_exit ?_))
  obtain⟨g,gm,sz,tot,s2,t2,TT,T2,es,clock,since,last,seen,⟨f1,f2,f3⟩,⟨f4,f5,f6,f7,f8,f9,f10,f11⟩,-⟩:=hitr
  obtain⟨k1,k2⟩:=hb2.sr.revive e4 f2 f3 f5 f9 f7
  have hq:=hend done act' T (by simpa using hperm) hinv
  show Exit.inBlock b0 _ (.exit b0) b2 w
  unfold Exit.inBlock
  dsimp only
  rw[if_pos rfl]
  refine kQ .normal _ _ _ _ _ hq ⟨k1,hb2.p,hb2.g,hb2.a⟩ (k2 W C S hfr ?_)
  by_cases hgw:W.heap.size<=gm
  ·exact .inr hgw
  ·refine .inl ?_
   obtain⟨g',s',t',T',r1,r2,r3,r4⟩:=hs1.sr.ob r _ hr (by simp)
   have hRr:=hRR r _ r1
   rw[f2]at hRr
   cases hRr
   exact (hf1.live gm ⟨r,_,_,_,_,hr,by simp,r1⟩).elim id λh=>absurd h hgw
 ·have hv2:VR w2 C' (.tup [.bool true,p.1,p.2]) (.tuple #[.bool true,vk,vv]):=VR.tup_of (VRs.cons (.bool _) (VRs.cons hvk (VRs.cons hvv VRs.nil)))
  have hfrw:=hfr2 W C S hfr hf1.size
  refine wpOps_one (o:=o5) (by rw[g5];rfl) q5.2.1 (v:=.tuple #[.bool true,vk,vv]) (W':=w2) (by simp only[execOp,q5.1,Sem.run_bind,hrn,Result.andThen_ok,Sem.run_pure]) ?_
  refine second hst2 hv2 λb2 hb2=>?_
  refine wp_seq (wp_cond_true (hck hb2) (wp_skip ?_))
  show (Code.block b1 _).wp E.P _ _ _
  refine wp_block (wp_seq (wp_region ?_))
  rw[List.range_eq_range',hsz6]
  have hit2:b2.eval (.tmp it)=b.eval (.tmp it):=by
   have h2:=hb2.a.eval (E:=E) hb2.g (.tmp it)
   have hed:evD E ((act'.set tn (.tup [.bool true,p.1,p.2])).set tk (.bool true)) (.tmp it)=.loc S1.length 0 0:=by
    simp[evD,List.getElem?_set,hne.1,hne.2.1,Ne.symm hne.1,Ne.symm hne.2.1,e1]
   rw[hed]at h2
   exact h2.loc_inj hitv
  have hve:VR w2 C' (.tup [p.1,p.2]) (.tuple #[vk,vv]):=VR.tup_of (VRs.cons hvk (VRs.cons hvv VRs.nil))
  refine wpOps_one (o:=o6) (by rw[g6];rfl) q6.2.1 (v:=.tuple #[vk,vv]) (W':=w2) (by simp only[execOp,q6.1,Sem.run_bind,hit2,hre,Result.andThen_ok,Sem.run_pure]) ?_
  obtain⟨a2,T2,hrun6,a3,T3,hcode,hI3⟩:=hstep done todo j p act' T hperm hinv hj
  have hs3:St E w2 C' T (((act'.set tn (.tup [.bool true,p.1,p.2])).set tk (.bool true)).set te (.tup [p.1,p.2])) (b2.put o6.dst (.tuple #[vk,vv])):=by
   rw[q6.2.2]
   exact⟨hb2.sr,hb2.p,hb2.g,hb2.a.put (some te) hve⟩
  have:=run_wp_k hE hC (m:=0) (l:=rest6) (k:=0+1) (ops:=ops6) (λj hj=>by
   rw[g6,show 0+1+j=j+1 by omega,Ky]) hs3 hrun6 (Q:=Exit.then (λa' w'=>REST.wp E.P (Exit.inBlock b1 (Exit.then (λa' w'=>∃m,m<todo.length/\∃done todo act' T C',m=todo.length/\(done++todo).Perm l/\I done todo act' T/\St E w' C' T act' a'/\Fr W C S w' C' T/\Itr w' C' T W1.heap.size r S1.length kt l todo/\∀k x,C1.R k=some x->C'.R k=some x) (Exit.inBlock b0 Qm))) a' w') (Exit.inBlock b1 (Exit.then (λa' w'=>∃m,m<todo.length/\∃done todo act' T C',m=todo.length/\(done++todo).Perm l/\I done todo act' T/\St E w' C' T act' a'/\Fr W C S w' C' T/\Itr w' C' T W1.heap.size r S1.length kt l todo/\∀k x,C1.R k=some x->C'.R k=some x) (Exit.inBlock b0 Qm)))) (λb3 w3 C3 hs3 hf3=>?_)
  ·rw[Nat.add_zero]at this
   exact this
  ·show REST.wp E.P _ _ _
   refine code_wp hE hC REST hlin hs3 hcode λb4 w4 C4 hs4 hf4=>?_
   have hjl:=(Kr.1 hj)
   refine⟨(todo.eraseIdx j).length,?_,done++[p],todo.eraseIdx j,a3,T3,C4,rfl,?_,hI3,hs4,(hfrw.trans hf3).trans hf4,(hitr2.fr hst2.sr hf3).fr hs3.sr hf4,λk x hk=>hf4.R _ _ (hf3.R _ _ (hRR k x hk))⟩
   ·rw[List.length_eraseIdx_of_lt hjl.1]
    have:=hjl.1
    omega
   ·rw[Vg]
    refine List.Perm.trans (List.Perm.append_left done ?_) hperm
    exact perm_erase hj
end
def atLoc (a:List D) (t k:Nat):Bool:=match a[t]? with
 |some (.loc i 0 0)=>i == k
 |_=>false
def isDead (S:List Ob) (r:Nat):Bool:=match S[r]? with
 |some .dead=>true
 |_=>false
theorem atLoc_spec {a:List D} {t k:Nat} (h:atLoc a t k=true):a[t]?=some (.loc k 0 0):=by
 unfold atLoc at h
 split at h
 ·rename_i i hi
  rw[hi]
  simp at h
  rw[h]
 ·cases h
theorem isDead_spec {S:List Ob} {r:Nat} (h:isDead S r=true):S[r]?=some .dead:=by
 unfold isDead at h
 split at h
 ·assumption
 ·cases h
def roundX (E:Env) (call:Call) (n it tn tk te r:Nat) (kt:TypeId) (p:D×D) (ops6:Array Oper) (rest6:List Oper) (REST:Code) (k:Nat) (a:List D) (T:List Ob):Out:=
 if atLoc a it k && decide (tn<a.length) && decide (tk<a.length) && isDead T r then
  match runD E call false ops6 rest6 (((a.set tn (.tup [.bool true,p.1,p.2])).set tk (.bool true)).set te (.tup [p.1,p.2])) T with
  |some (a2,T2)=>match Yr E call n REST a2 T2 with
   |some (.normal,a3,T3)=>if atLoc a3 it k && decide (tn<a3.length) && decide (tk<a3.length) && isDead T3 r then some (.normal,(a3.set tn (.tup [.bool false])).set tk (.bool false),T3.set r (.map kt [p])) else none
   |_=>none
  |none=>none
 else none
def oneR (E:Env) (call:Call) (n:Nat) (x y:Code) (a:List D) (S:List Ob):Out:=
 match x,y with
 | .region _ ops4 false,.block b0 (.loop (.seq (.region _ ops5 false) (.seq (.cond (.tmp tk) .skip (.exit b0')) (.block _ (.seq (.region _ ops6 false) REST)))))=>
  match ops4.toList.getLast?,ops5.toList,ops6.toList with
  |some o4,[o5,o5'],o6::rest6=>
   match o4.op,o4.guard,o4.dst,o5.op,o5.guard,o5.dst,o5'.op,o5'.guard,o5'.dst,o6.op,o6.guard,o6.dst with
   | .range t4 x4,none,some it,.next (.tmp it1) false,none,some tn,.extract (.tmp tn1) 0,none,some tk1,.entry (.tmp it2),none,some te=>
    if b0=b0'/\it=it1/\it=it2/\tn=tn1/\tk=tk1/\it≠tn/\it≠tk/\it≠te then
     match runD E call false ops4 ops4.toList.dropLast a S with
     |some (a1,S1)=>match evD E a1 x4,E.P.underlying t4 with
      | .map r,some (.map kt _)=>match S1[r]? with
       |some (.map kt' [p])=>if kt'=kt then roundX E call n it tn tk te r kt p ops6 rest6 REST S1.length (a1.set it (.loc S1.length 0 0)) (S1.set r .dead++[.dead]) else none
       |_=>none
      |_,_=>none
     |none=>none
    else none
   |_,_,_,_,_,_,_,_,_,_,_,_=>none
  |_,_,_=>none
 |_,_=>none
def codeX (E:Env) (call:Call) (n:Nat):Code->List D->List Ob->Out
 | .seq x y,a,S=>match oneR E call n x y a S with
  |some r=>some r
  |none=>match codeX E call n x a S with
   |some (.normal,a',S')=>codeX E call n y a' S'
   |r=>r
 | .cond c x y,a,S=>match evD E a c with
  | .bool true=>codeX E call n x a S
  | .bool false=>codeX E call n y a S
  |_=>none
 | .block id c,a,S=>match codeX E call n c a S with
  |some (.exit j,a',S')=>if j=id then some (.normal,a',S') else some (.exit j,a',S')
  |r=>r
 | .scope c,a,S=>codeX E call n c a S
 |c,a,S=>Yr E call n c a S
def dcallX (E:Env):Nat->Call
 |0=>λ_ _ _=>none
 |n+1=>λf args S=>if E.mode f=.no then none else match E.prim f with
  |some p=>p args S
  |none=>match E.P.funcs[f]? with
   |some fn=>match fn.body with
    |some c=>match codeX E (dcallX E n) n c (args++List.replicate (fn.ntmps-args.length) (.tup [])) S with
     |some (.exit _,_,_)=>none
     |some (_,a,S')=>(resD E.P a S' fn.results.toList).map λds=>(tupD ds,S')
     |none=>none
    |none=>none
   |none=>none
section
variable {E : Env} {call : Call} (hE : EnvOk E) (hC : CallOk E call)
include hE hC
theorem oneR_mw {n:Nat} {x y:Code} (hl:linC E y=true) {a a':List D} {S S':List Ob} {e:DX} (h:oneR E call n x y a S=some (e,a',S')):MW E (.seq x y) (λe' b T=>e'=e/\b=a'/\T=S') a S:=by
 unfold oneR at h
 split at h
 case h_2=>cases h
 rename_i i4 ops4 b0 i5 ops5 tk b0' b1 i6 ops6 REST
 split at h
 case h_2=>cases h
 rename_i o4 o5 o5' o6 rest6 e4 e5 e6
 split at h
 case h_2=>cases h
 rename_i t4 x4 it it1 tn tn1 tk1 it2 te p1 p2 p3 p4 p5 p6 p7 p8 p9 p10 p11 p12
 split at h
 case isFalse=>cases h
 rename_i hc
 obtain⟨rfl,rfl,rfl,rfl,rfl,c1,c2,c3⟩:=hc
 split at h
 case h_2=>cases h
 rename_i a1 S1 hpre
 split at h
 case h_2=>cases h
 rename_i r kt et hx hu
 split at h
 case h_2=>cases h
 rename_i kt' p hr
 split at h
 case isFalse=>cases h
 rename_i hkt
 subst hkt
 have h4:ops4.toList=ops4.toList.dropLast++[o4]:=by
  have hne:ops4.toList≠[]:=λh0=>by rw[h0]at e4;cases e4
  have:=List.dropLast_concat_getLast hne
  rw[List.getLast?_eq_some_getLast hne]at e4
  cases e4
  exact this.symm
 unfold roundX at h
 split at h
 case isFalse=>cases h
 rename_i hb
 simp only[Kv,Up]at hb
 obtain⟨⟨⟨b1',b2⟩,b3⟩,b4⟩:=hb
 split at h
 case h_2=>cases h
 rename_i a2 T2 h6
 split at h
 case h_2=>cases h
 rename_i a3 T3 hcode
 split at h
 case isFalse=>cases h
 rename_i hb'
 simp only[Kv,Up]at hb'
 obtain⟨⟨⟨d1,d2⟩,d3⟩,d4⟩:=hb'
 simp only[Uw,Prod.mk.injEq]at h
 obtain⟨rfl,rfl,rfl⟩:=h
 have hlR:linC E REST=true:=by
  simp only[linC,Kv]at hl
  exact hl.2.2.2
 refine MW.range hE hC (n:=n) h4 ⟨p1,p2,p3⟩ e5 ⟨p4,p5,p6⟩ ⟨p7,p8,p9⟩ e6 ⟨p10,p11,p12⟩ ⟨c1,c2,c3⟩ hlR hu hpre hx hr
  (λdone todo b T=>(done=[]/\todo=[p]/\b=a1.set it (.loc S1.length 0 0)/\T=S1.set r .dead++[.dead])∨(done=[p]/\todo=[]/\b=a3/\T=T3)) ?_ ?_ ?_ ?_
 ·intro m hm
  exact .inl ⟨rfl,List.perm_singleton.1 hm,rfl,rfl⟩
 ·rintro done todo b T (⟨-,-,rfl,rfl⟩ | ⟨-,-,rfl,rfl⟩)
  ·exact⟨atLoc_spec b1',b2,b3,isDead_spec b4⟩
  ·exact⟨atLoc_spec d1,d2,d3,isDead_spec d4⟩
 ·rintro done todo j q b T-(⟨rfl,rfl,rfl,rfl⟩ | ⟨rfl,rfl,rfl,rfl⟩) hj
  ·have hj0:j=0:=by have:=(Kr.1 hj).1;simpa using this
   subst hj0
   have:p=q:=by simpa using hj
   subst this
   exact⟨a2,T2,h6,a3,T3,hcode,.inr ⟨rfl,rfl,rfl,rfl⟩⟩
  ·simp at hj
 ·rintro done b T hperm (⟨rfl,h,-⟩ | ⟨rfl,-,rfl,rfl⟩)
  ·cases h
  ·exact⟨rfl,rfl,rfl⟩
theorem codeX_mw {n:Nat}:∀(c:Code),linC E c=true->∀ {a a':List D} {S S':List Ob} {e:DX},codeX E call n c a S=some (e,a',S')->MW E c (λe' b T=>e'=e/\b=a'/\T=S') a S:=by
 intro c
 induction c with
 |seq x y ihx ihy=>
  intro hl a a' S S' e h
  have hl':=hl
  simp only[linC,Kv]at hl
  unfold codeX at h
  split at h
  ·rename_i r hr
   cases h
   exact oneR_mw hE hC hl.2 hr
  ·split at h
   ·rename_i a1 S1 hx
    refine MW.seq ((ihx hl.1 hx).mono ?_)
    rintro e' b T ⟨rfl,rfl,rfl⟩
    exact ihy hl.2 h
   ·rename_i hne
    refine MW.seq ((ihx hl.1 h).mono ?_)
    rintro e' b T ⟨rfl,rfl,rfl⟩
    cases e' with
    |normal=>exact absurd h (hne _ _)
    |exit j=>exact⟨rfl,rfl,rfl⟩
    |ret=>exact⟨rfl,rfl,rfl⟩
 |cond c x y ihx ihy=>
  intro hl a a' S S' e h
  simp only[linC,Kv]at hl
  unfold codeX at h
  split at h
  ·rename_i hc;exact MW.cond hc (ihx hl.1 h)
  ·rename_i hc;exact MW.cond hc (ihy hl.2 h)
  ·cases h
 |block id c ih=>
  intro hl a a' S S' e h
  simp only[linC]at hl
  unfold codeX at h
  split at h
  ·rename_i j a1 S1 hx
   refine MW.block ((ih hl hx).mono ?_)
   rintro e' b T ⟨rfl,rfl,rfl⟩
   unfold mwBlock
   dsimp only
   split
   ·rename_i hj
    rw[if_pos hj]at h
    cases h
    exact⟨rfl,rfl,rfl⟩
   ·rename_i hj
    rw[if_neg hj]at h
    cases h
    exact⟨rfl,rfl,rfl⟩
  ·rename_i hne
   refine MW.block ((ih hl h).mono ?_)
   rintro e' b T ⟨rfl,rfl,rfl⟩
   cases e' with
   |normal=>exact⟨rfl,rfl,rfl⟩
   |exit j=>exact absurd h (hne _ _ _)
   |ret=>exact⟨rfl,rfl,rfl⟩
 |scope c ih=>
  intro hl a a' S S' e h
  simp only[linC]at hl
  exact MW.scope (ih hl h)
 |_=>
  intro hl a a' S S' e h
  exact MW.of hE hC hl h ⟨rfl,rfl,rfl⟩
end
theorem dcallX_ok {E:Env} (hE:EnvOk E):∀n,CallOk E (dcallX E n)
 |0=>λf args S d S' h=>by simp[dcallX]at h
 |n+1=>by
  intro f args S d S' h W C vargs hs hP hG hv
  have ih:=dcallX_ok hE n
  unfold dcallX at h
  split at h
  ·cases h
  ·rename_i hmode
   split at h
   ·rename_i p hp
    exact hE.prims f p hp args S d S' h W C vargs hs hP hG hv
   split at h
   ·rename_i fn hf
    split at h
    ·rename_i c hb
     refine⟨⟨fn,hf,by rw[hb];rfl⟩,?_⟩
     have fin:∀ {e:DX} {act':List D} {S1:List Ob},codeX E (dcallX E n) n c (args++List.replicate (fn.ntmps-args.length) (.tup [])) S=some (e,act',S1)->e=.normal∨e=.ret->(resD E.P act' S1 fn.results.toList).map (λds=>(tupD ds,S1))=some (d,S')->
       Calls E.P f vargs W λe W'=>∃v C',e=.returned v/\VR W' C' d v/\SR W' C' S'/\Fr W C S W' C' S':=by
      intro e act' S1 hcode he hres
      obtain⟨ds,hds,heq⟩:=Ks.1 hres
      cases heq
      refine (calls_of_mw (R:=λd T=>d=tupD ds/\T=S') hE hf hb ((codeX_mw hE ih c (hE.lin f fn c hf hb hmode) hcode).mono ?_) hs hP hG hv).mono ?_
      ·rintro e' b T ⟨rfl,rfl,rfl⟩
       exact⟨he,ds,hds,rfl,rfl⟩
      ·rintro e' W' ⟨v,C',d',T,rfl,⟨rfl,rfl⟩,h1,h2,h3⟩
       exact⟨v,C',rfl,h1,h2,h3⟩
     cases hcode:codeX E (dcallX E n) n c (args++List.replicate (fn.ntmps-args.length) (.tup [])) S with
     |none=>rw[hcode]at h;cases h
     |some r=>
      obtain⟨e,act',S1⟩:=r
      rw[hcode]at h
      cases e with
      |normal=>exact fin hcode (.inl rfl) h
      |exit id=>cases h
      |ret=>exact fin hcode (.inr rfl) h
    ·cases h
   ·cases h
theorem prim_closed {E:Env} (hE:EnvOk E) {n:Nat} {f:FuncId} {b:Bool} {T:List Ob} (h:dcallX E n f [] []=some (.bool b,T)) {W:World} {C:Cx} {S:List Ob} {vargs:Array Value} (hs:SR W C S) (hP:C.P=E.P) (hG:GR W C E.G) (hv:VRs W C [] vargs.toList):
  (∃fn,E.P.funcs[f]?=some fn/\fn.body.isSome=true)/\
  Calls E.P f vargs W λe W'=>∃v C',e=.returned v/\VR W' C' (.bool b) v/\SR W' C' S/\Fr W C S W' C' S:=by
 let C0:Cx:=⟨C.P,λ_=>none,C.I⟩
 have hs0:SR W C0 []:=⟨λk ob hk=>(by simp at hk),λk x hx=>(by cases hx),λk k' ob ob' x x' hk=>(by simp at hk),hs.imm⟩
 obtain⟨hb,hcl⟩:=dcallX_ok hE n f [] [] _ T h W C0 vargs hs0 hP (hG.pure hE (λg hg=>hg)) ⟨hv.1,λj d u hd=>by simp at hd⟩
 refine⟨hb,hcl.mono ?_⟩
 rintro e W' ⟨v,C1,rfl,hr,hs1,hf⟩
 have hkeep:∀b,b<W.heap.size->W'.heap[b]?=W.heap[b]? :=λb hb=>hf.keep b hb (λhl=>by obtain⟨k,ob,sz,tot,T',h1,-⟩:=hl;simp at h1)
 have hm:∀a u,VR W C a u->VR W' ⟨C.P,C.R,C1.I⟩ a u:=λa u hau=>VR.mono (C:=C) (C':=⟨C.P,C.R,C1.I⟩) (λg hg=>⟨hf.I g hg,hkeep g (hs.imm g hg)⟩) (λk x hx=>hx) hau
 refine⟨v,⟨C.P,C.R,C1.I⟩,rfl,?_,⟨λk ob hk ho=>?_,hs.fresh,hs.inj,hs1.imm⟩,⟨hf.os,hf.tape,hf.output,hf.size,λb hb _=>hkeep b hb,λb hb=>.inl hb,λk x hx=>hx,hf.I,rfl,hf.newI,Uk _,λ_ _ h=>.inl h⟩⟩
 ·cases hr;exact .bool b
 ·obtain⟨g,sz,tot,T',h1,h2,h3,h4⟩:=hs.ob k ob hk ho
  exact⟨g,sz,tot,T',h1,h2.mono rfl (hkeep g h4) hm,λhb=>(hf.newI g hb).elim h3 (λh5=>by omega),Nat.lt_of_lt_of_le h4 hf.size⟩
end Go.Proofs.YtaklebjoenophaaGreat.Dm
