/-
  The machine's maps: look-ups, stores and deletions are what the model does.
-/
import Derived.Test.YtaklebjoenophaaGreatDmA
import Derived.Maps.Keyed
import Derived.Maps.RangeRun
set_option linter.unusedSimpArgs false
set_option linter.unusedVariables false
namespace Go.Proofs.YtaklebjoenophaaGreat.Dm
open Go Go.RowKit
section
variable {P : Program} {W : World} {C : Cx} {S : List Ob}
theorem litC_vr {d:D} {v u:Value} (hv:VR W C d v) (h:litC d=some u):v=u:=by
 cases hv <;> simp_all[litC]
theorem litCs_vrs:∀ {ds:List D} {vs us:List Value},VRs W C ds vs->litCs ds=some us->vs=us
 | [],vs,us,h,e=>by
  have:vs=[]:=Ug (by simpa using h.1.symm)
  simp[litCs]at e;subst e;exact this
 |d::ds,[],us,h,e=>by have:=h.1;simp at this
 |d::ds,v::vs,us,h,e=>by
  unfold litCs at e
  split at e
  ·rename_i a b h1 h2
   cases e
   rw[litC_vr h.head h1,litCs_vrs h.tail h2]
  ·cases e
theorem litV_vr {d:D} {v u:Value} (hv:VR W C d v) (h:litV d=some u):v=u:=by
 unfold litV at h
 split at h
 ·rename_i cs
  obtain⟨us,hu,rfl⟩:=Ks.1 h
  obtain⟨vs,rfl,hvs⟩:=hv.of_agg
  rw[<-litCs_vrs hvs hu]
 ·exact litC_vr hv h
theorem kBeq_iff {a b:D} {u v:Value} (h1:litC a=some u) (h2:litC b=some v):kBeq a b=true↔u=v:=by
 cases a <;> simp only[litC,Uw,reduceCtorEq]at h1 <;> subst h1 <;> cases b <;> simp only[litC,Uw,reduceCtorEq]at h2 <;> subst h2 <;> simp[kBeq]
theorem kBeqs_iff:∀ {a b:List D} {u v:List Value},litCs a=some u->litCs b=some v->(kBeqs a b=true↔u=v)
 | [],[],u,v,h1,h2=>by simp[litCs]at h1 h2;subst h1;subst h2;simp[kBeqs]
 | [],d::b,u,v,h1,h2=>by
  simp[litCs]at h1;subst h1
  unfold litCs at h2
  split at h2
  ·cases h2;simp[kBeqs]
  ·cases h2
 |d::a,[],u,v,h1,h2=>by
  simp[litCs]at h2;subst h2
  unfold litCs at h1
  split at h1
  ·cases h1;simp[kBeqs]
  ·cases h1
 |d::a,e::b,u,v,h1,h2=>by
  unfold litCs at h1 h2
  split at h1
  ·rename_i u1 us g1 g2
   cases h1
   split at h2
   ·rename_i v1 vs g3 g4
    cases h2
    simp only[kBeqs,Kv,kBeq_iff g1 g3,kBeqs_iff g2 g4,List.cons.injEq]
   ·cases h2
  ·cases h1
theorem litC_notagg {d:D} {v:Value} (h:litC d=some v) (vs:Array Value):v≠.agg vs:=by
 cases d <;> simp only[litC,Uw,reduceCtorEq]at h <;> subst h <;> simp
theorem keyBeq_iff {a b:D} {u v:Value} (h1:litV a=some u) (h2:litV b=some v):Yz a b=true↔u=v:=by
 unfold litV at h1 h2
 split at h1
 ·rename_i x
  obtain⟨us,hu,rfl⟩:=Ks.1 h1
  split at h2
  ·rename_i y
   obtain⟨vs,hv,rfl⟩:=Ks.1 h2
   simp only[Yz,kBeqs_iff hu hv,Value.agg.injEq]
   constructor
   ·intro h;rw[h]
   ·intro h;simpa using congrArg Array.toList h
  ·rename_i d hd
   have:Yz (.agg x) b=false:=by cases b <;> first |rfl |exact absurd rfl (hd _)
   rw[this]
   constructor
   ·intro h;cases h
   ·intro h;exact absurd h.symm (litC_notagg h2 _)
 ·rename_i d hd
  split at h2
  ·rename_i y
   obtain⟨vs,hv,rfl⟩:=Ks.1 h2
   have:Yz a (.agg y)=false:=by cases a <;> first |rfl |exact absurd rfl (hd _)
   rw[this]
   constructor
   ·intro h;cases h
   ·intro h;exact absurd h (litC_notagg h1 _)
  ·rename_i hd'
   have:Yz a b=kBeq a b:=by cases a <;> first |exact absurd rfl (hd _) | (cases b <;> first |rfl |exact absurd rfl (hd' _))
   rw[this]
   exact kBeq_iff h1 h2
theorem keyOk_spec {kt:TypeId} {d:D} (h:keyOk P kt d=true):∃v l,litV d=some v/\keyOf P kt v=some l:=by
 unfold keyOk at h
 split at h
 ·rename_i v hv
  obtain⟨l,hl⟩:=Option.isSome_iff_exists.1 h
  exact⟨v,l,hv,hl⟩
 ·cases h
theorem find_rel {kt:TypeId} {k:D} {vk:Value} (hk:litV k=some vk):∀ {l:List (D×D)} {es:List MapEntry},l.length=es.length->(∀p∈l,keyOk P kt p.1=true)->l.Pairwise (λp q=>Yz p.1 q.1=false)->
  (∀(i:Nat) (p:D×D) (e:MapEntry),l[i]?=some p->es[i]?=some e->VR W C p.1 e.key/\VR W C p.2 e.val)->
  ((∀e∈es,e.key≠vk)->Jp l k=none/\∀p∈l,Yz p.1 k=false)/\
  (∀(j:Nat) (e:MapEntry),es[j]?=some e->e.key=vk->∃p,l[j]?=some p/\Yz p.1 k=true/\Jp l k=some p.2/\∀i q,l[i]?=some q->i≠j->Yz q.1 k=false)
 | [],es,hl,_,_,_=>by
  have:es=[]:=Ug (by simpa using hl.symm)
  subst this
  exact⟨λ_=>⟨rfl,λp hp=>by simp at hp⟩,λj e hj=>by simp at hj⟩
 |p::l,[],hl,_,_,_=>by simp at hl
 |p::l,x::es,hl,hok,hd,hv=>by
  obtain⟨hd1,hd2⟩:=List.pairwise_cons.1 hd
  have ih:=find_rel hk (l:=l) (es:=es) (by simpa using hl) (λq hq=>hok q (by simp[hq])) hd2 (λi q e hq he=>hv (i+1) q e (by simpa using hq) (by simpa using he))
  obtain⟨vp,lp,hvp,-⟩:=keyOk_spec (hok p (by simp))
  have hxp:x.key=vp:=litV_vr (hv 0 p x rfl rfl).1 hvp
  have hb:=keyBeq_iff hvp hk
  constructor
  ·intro hno
   have h1:=hno x (by simp)
   have hpk:Yz p.1 k=false:=by
    cases hq:Yz p.1 k
    ·rfl
    ·exact absurd (hxp.trans (hb.1 hq)) h1
   obtain⟨e1,e2⟩:=ih.1 (λe he=>hno e (by simp[he]))
   refine⟨?_,λq hq=>?_⟩
   ·unfold Jp at e1 ⊢
    rw[List.find?_cons,hpk];exact e1
   ·rcases List.mem_cons.1 hq with rfl |hq
    ·exact hpk
    ·exact e2 q hq
  ·intro j e hj hke
   cases j with
   |zero=>
    have:x=e:=by simpa using hj
    subst this
    have hpk:Yz p.1 k=true:=hb.2 (hxp.symm.trans hke)
    refine⟨p,rfl,hpk,by unfold Jp;rw[List.find?_cons,hpk];rfl,λi q hq hi=>?_⟩
    cases i with
    |zero=>exact absurd rfl hi
    |succ i=>
     have hq':l[i]?=some q:=by simpa using hq
     have hm:=Kx hq'
     obtain⟨vq,lq,hvq,-⟩:=keyOk_spec (hok q (by simp[hm]))
     cases hqq:Yz q.1 k
     ·rfl
     ·have:=hd1 q hm
      rw[(keyBeq_iff hvp hvq).2 ((hb.1 hpk).trans ((keyBeq_iff hvq hk).1 hqq).symm)]at this
      cases this
   |succ j=>
    obtain⟨q,hq,hqk,hlook,hoth⟩:=ih.2 j e (by simpa using hj) hke
    have hmq:=Kx hq
    obtain⟨vq,lq,hvq,-⟩:=keyOk_spec (hok q (by simp[hmq]))
    have hpk:Yz p.1 k=false:=by
     cases hpp:Yz p.1 k
     ·rfl
     ·have:=hd1 q hmq
      rw[(keyBeq_iff hvp hvq).2 ((hb.1 hpp).trans ((keyBeq_iff hvq hk).1 hqk).symm)]at this
      cases this
    refine⟨q,by simpa using hq,hqk,by unfold Jp at hlook ⊢;rw[List.find?_cons,hpk];exact hlook,λi r hr hi=>?_⟩
    cases i with
    |zero=>
     have:p=r:=by simpa using hr
     subst this;exact hpk
    |succ i=>exact hoth i r (by simpa using hr) (by omega)
theorem putM_new {l:List (D×D)} {k v:D} (h:∀p∈l,Yz p.1 k=false):putM l k v=l++[(k,v)]:=by
 induction l with
 |nil=>rfl
 |cons p l ih=>
  obtain⟨a,b⟩:=p
  unfold putM
  rw[h (a,b) (by simp)]
  simp only[Ui,if_false,Uv]
  rw[ih (λq hq=>h q (by simp[hq]))]
theorem putM_old {l:List (D×D)} {k v:D} {j:Nat} {p:D×D} (hj:l[j]?=some p) (hp:Yz p.1 k=true) (hoth:∀i q,l[i]?=some q->i≠j->Yz q.1 k=false):putM l k v=l.set j (p.1,v):=by
 induction l generalizing j with
 |nil=>simp at hj
 |cons q l ih=>
  obtain⟨a,b⟩:=q
  cases j with
  |zero=>
   have:(a,b)=p:=by simpa using hj
   subst this
   unfold putM
   rw[if_pos hp];rfl
  |succ j=>
   unfold putM
   have:=hoth 0 (a,b) rfl (by omega)
   rw[this]
   simp only[Ui,if_false,List.set_cons_succ]
   rw[ih (by simpa using hj) (λi r hr hi=>hoth (i+1) r (by simpa using hr) (by omega))]
theorem delM_old {l:List (D×D)} {k:D} {j:Nat} {p:D×D} (hj:l[j]?=some p) (hp:Yz p.1 k=true) (hoth:∀i q,l[i]?=some q->i≠j->Yz q.1 k=false):delM l k=l.eraseIdx j:=by
 induction l generalizing j with
 |nil=>simp at hj
 |cons q l ih=>
  cases j with
  |zero=>
   have:q=p:=by simpa using hj
   subst this
   unfold delM
   rw[List.eraseP_cons_of_pos (p:=λp:D×D=>Yz p.1 k) hp];rfl
  |succ j=>
   have:=hoth 0 q rfl (by omega)
   unfold delM at ih ⊢
   rw[List.eraseP_cons_of_neg (by rw[this];simp),ih (by simpa using hj) (λi r hr hi=>hoth (i+1) r (by simpa using hr) (by omega)),List.eraseIdx_cons_succ]
theorem delM_none {l:List (D×D)} {k:D} (h:∀p∈l,Yz p.1 k=false):delM l k=l:=by
 unfold delM
 exact List.eraseP_of_forall_not (λp hp=>by rw[h p hp];simp)
/-! The order of the pairs does not count. -/
theorem look_perm {m l:List (D×D)} (h:m.Perm l) {k:D} (hu:∀p∈m,∀q∈m,Yz p.1 k=true->Yz q.1 k=true->p=q):Jp m k=Jp l k:=by
 unfold Jp
 congr 1
 cases hl:l.find? λp=>Yz p.1 k with
 |none=>
  rw[List.find?_eq_none]at hl ⊢
  exact λp hp=>hl p (h.mem_iff.1 hp)
 |some q=>
  have hq:=List.find?_some (p:=λp:D×D=>Yz p.1 k) hl
  have hqm:=h.mem_iff.2 (List.mem_of_find?_eq_some hl)
  cases hm:m.find? λp=>Yz p.1 k with
  |none=>exact absurd hq (List.find?_eq_none.1 hm q hqm)
  |some p=>rw[hu p (List.mem_of_find?_eq_some hm) q hqm (List.find?_some (p:=λp:D×D=>Yz p.1 k) hm) hq]
theorem map_same {l:List (D×D)} {k v:D} (h:∀p∈l,Yz p.1 k=false):l.map (λp=>if Yz p.1 k then (p.1,v) else p)=l:=by
 induction l with
 |nil=>rfl
 |cons p l ih=>rw[Uy,h p (by simp),ih (λq hq=>h q (by simp[hq]))];rfl
def Lone (k:D) (l:List (D×D)):Prop:=l.Pairwise (λp q=>¬(Yz p.1 k=true/\Yz q.1 k=true))
theorem putM_map:∀ {l:List (D×D)} {k v:D},Lone k l->putM l k v=if l.any (λp=>Yz p.1 k) then l.map (λp=>if Yz p.1 k then (p.1,v) else p) else l++[(k,v)]
 | [],k,v,_=>rfl
 | (a,b)::l,k,v,h=>by
  obtain⟨h1,h2⟩:=List.pairwise_cons.1 h
  unfold putM
  cases hk:Yz a k with
  |true=>
   rw[if_pos rfl,List.any_cons,Uy]
   simp only[hk,Bool.true_or,if_true]
   rw[map_same λp hp=>by
    cases hq:Yz p.1 k with
    |false=>rfl
    |true=>exact absurd ⟨hk,hq⟩ (h1 p hp)]
  |false=>
   rw[if_neg (by simp),List.any_cons,Uy,putM_map h2]
   simp only[hk,Bool.false_or,Ui,if_false]
   split <;> rfl
theorem delM_filter:∀ {l:List (D×D)} {k:D},Lone k l->delM l k=l.filter (λp=> !Yz p.1 k)
 | [],k,_=>rfl
 |p::l,k,h=>by
  obtain⟨h1,h2⟩:=List.pairwise_cons.1 h
  have ih:=delM_filter h2
  unfold delM at ih ⊢
  cases hk:Yz p.1 k with
  |true=>
   rw[List.eraseP_cons_of_pos (p:=λp:D×D=>Yz p.1 k) hk,List.filter_cons_of_neg (by simp[hk])]
   rw[List.filter_eq_self.2 λq hq=>by
    cases hq':Yz q.1 k with
    |false=>rfl
    |true=>exact absurd ⟨hk,hq'⟩ (h1 q hq)]
  |false=>rw[List.eraseP_cons_of_neg (by simp[hk]),List.filter_cons_of_pos (by simp[hk]),ih]
theorem Lone.perm {k:D} {m l:List (D×D)} (h:m.Perm l) (hm:Lone k m):Lone k l:=(h.pairwise_iff (λ{a b} hab=>λhx=>hab ⟨hx.2,hx.1⟩)).1 hm
theorem putM_perm {m l:List (D×D)} (h:m.Perm l) {k v:D} (hm:Lone k m):(putM m k v).Perm (putM l k v):=by
 rw[putM_map hm,putM_map (hm.perm h)]
 have:m.any (λp=>Yz p.1 k)=l.any (λp=>Yz p.1 k):=by
  rw[Bool.eq_iff_iff,List.any_eq_true,List.any_eq_true]
  exact⟨λ⟨p,hp,hk⟩=>⟨p,h.mem_iff.1 hp,hk⟩,λ⟨p,hp,hk⟩=>⟨p,h.mem_iff.2 hp,hk⟩⟩
 rw[this]
 split
 ·exact h.map _
 ·exact h.append_right _
theorem delM_perm {m l:List (D×D)} (h:m.Perm l) {k:D} (hm:Lone k m):(delM m k).Perm (delM l k):=by
 rw[delM_filter hm,delM_filter (hm.perm h)]
 exact h.filter _
theorem lone_none {k:D} {l:List (D×D)} (h:∀p∈l,Yz p.1 k=false):Lone k l:=by
 refine List.pairwise_of_forall_mem_list λp hp q _ hx=>?_
 rw[h p hp]at hx;exact absurd hx.1 (by simp)
theorem lone_one {k:D} {l:List (D×D)} {j:Nat} (h:∀i q,l[i]?=some q->i≠j->Yz q.1 k=false):Lone k l:=by
 refine List.pairwise_iff_getElem.2 λa b ha hb hab hx=>?_
 by_cases hj:a=j
 ·rw[h b _ (Uh hb) (by omega)]at hx;exact absurd hx.2 (by simp)
 ·rw[h a _ (Uh ha) hj]at hx;exact absurd hx.1 (by simp)
theorem Lone.uniq {k:D} {l:List (D×D)} (h:Lone k l):∀p∈l,∀q∈l,Yz p.1 k=true->Yz q.1 k=true->p=q:=by
 intro p hp q hq h1 h2
 obtain⟨i,hi⟩:=List.mem_iff_getElem.1 hp
 obtain⟨j,hj⟩:=List.mem_iff_getElem.1 hq
 obtain⟨hi',ei⟩:=hi
 obtain⟨hj',ej⟩:=hj
 rcases Nat.lt_trichotomy i j with hij |hij |hij
 ·have:=List.pairwise_iff_getElem.1 h i j hi' hj' hij
  rw[ei,ej]at this;exact absurd ⟨h1,h2⟩ this
 ·subst hij;rw[<-ei,<-ej]
 ·have:=List.pairwise_iff_getElem.1 h j i hj' hi' hij
  rw[ei,ej]at this;exact absurd ⟨h2,h1⟩ this
theorem find_run (hP:C.P=P) {kt:TypeId} (K:Maps.Keyed P kt) {l:List (D×D)} {es:Array MapEntry} (hl:l.length=es.size) (hok:∀p∈l,keyOk C.P kt p.1=true) (hd:l.Pairwise (λp q=>Yz p.1 q.1=false))
  (hv:∀(i:Nat) (p:D×D) (e:MapEntry),l[i]?=some p->es[i]?=some e->VR W C p.1 e.key/\VR W C p.2 e.val) {k:D} {vk:Value} (hkv:VR W C k vk) (hk:keyOk P kt k=true):
  (∀em,(Instr.checkKey em 10000 kt vk).run P W=.ok () W)/\litV k=some vk/\(Instr.keyThatStays vk vk).run P W=.ok vk W/\
  (((Instr.findKey kt vk es.toList).run P W=.ok none W/\Jp l k=none/\∀p∈l,Yz p.1 k=false)∨
   ∃j e p,(Instr.findKey kt vk es.toList).run P W=.ok (some (j,e.val)) W/\es[j]?=some e/\e.key=vk/\l[j]?=some p/\Yz p.1 k=true/\Jp l k=some p.2/\∀i q,l[i]?=some q->i≠j->Yz q.1 k=false):=by
 subst hP
 obtain⟨v',y,hlit,hy⟩:=keyOk_spec hk
 have:=litV_vr hkv hlit
 subst this
 refine⟨λem=>K.check W em hy,hlit,K.stays W hy,?_⟩
 have hrel:=find_rel (W:=W) (C:=C) hlit (l:=l) (es:=es.toList) (by simpa using hl) hok hd (λi p e hp he=>hv i p e hp (by simpa using he))
 have hall:∀e∈es.toList,∃l,keyOf C.P kt e.key=some l:=by
  intro e he
  obtain⟨i,hi⟩:=Vv.1 he
  have hil:i<l.length:=by rw[hl];have:=(Kr.1 hi).1;simpa using this
  have hp:l[i]?=some l[i]:=Uh hil
  obtain⟨u,y',hu,hy'⟩:=keyOk_spec (hok _ (Kx hp))
  rw[litV_vr (hv i _ e hp (by simpa using hi)).1 hu]
  exact⟨y',hy'⟩
 rcases K.find W hy es.toList hall with ⟨hf,hn⟩ | ⟨j,e,hf,hj,hke⟩
 ·obtain⟨h1,h2⟩:=hrel.1 hn
  exact .inl ⟨hf,h1,h2⟩
 ·obtain⟨p,hp,h1,h2,h3⟩:=hrel.2 j e hj hke
  exact .inr ⟨j,e,p,hf,by simpa using hj,hke,hp,h1,h2,h3⟩
theorem run_lookup (hs:SR W C S) (hP:C.P=P) {t kt et:TypeId} (hu:P.underlying t=some (.map kt et)) (K:Maps.Keyed P kt) {z:D} (hz:Ji P et=some z) {r:Nat} {l:List (D×D)} (hr:S[r]?=some (.map kt l)) {k:D} {vx vk:Value} (hx:VR W C (.map r) vx) (hkv:VR W C k vk) (hk:keyOk P kt k=true) (ok:Bool):
  ∃u,(Instr.lookup t vx vk ok).run P W=.ok u W/\VR W C (match Jp l k with |some v=>if ok then .tup [v,.bool true] else v |none=>if ok then .tup [z,.bool false] else z) u:=by
 cases hx with
 |map hrr=>
  obtain⟨⟨es,clock,m,hb,hmp,-,hl,hok,hd,hv⟩,-,-⟩:=hs.at hr (by simp) hrr
  obtain⟨hch,-,-,hcase⟩:=find_run hP K hl hok hd hv hkv hk
  obtain⟨zv,hzr,-,hzv⟩:=run_zero hz
  have hzvr:=Ju (W:=W) (C:=C) hzv
  have hlone:Lone k m:=by
   rcases hcase with ⟨-,-,hno⟩ | ⟨j,e,p,-,-,-,-,-,-,hoth⟩
   ·exact lone_none hno
   ·exact lone_one hoth
  rw[look_perm hmp hlone.uniq]at hcase
  rcases hcase with ⟨hf,hlook,-⟩ | ⟨j,e,p,hf,hj,hke,hp,-,hlook,-⟩
  ·rw[hlook]
   cases ok with
   |true=>exact⟨.tuple #[zv,.bool false],by simp[Instr.lookup,run_underlying hu,MapKept.run_getObj_map hb,hch,hf,hzr,Result.andThen],VR.tup_of (VRs.cons hzvr (VRs.cons (.bool _) VRs.nil))⟩
   |false=>exact⟨zv,by simp[Instr.lookup,run_underlying hu,MapKept.run_getObj_map hb,hch,hf,hzr,Result.andThen],hzvr⟩
  ·rw[hlook]
   have hval:=(hv j p e hp hj).2
   cases ok with
   |true=>exact⟨.tuple #[e.val,.bool true],by simp[Instr.lookup,run_underlying hu,MapKept.run_getObj_map hb,hch,hf,Result.andThen],VR.tup_of (VRs.cons hval (VRs.cons (.bool _) VRs.nil))⟩
   |false=>exact⟨e.val,by simp[Instr.lookup,run_underlying hu,MapKept.run_getObj_map hb,hch,hf,Result.andThen],hval⟩
theorem run_lookup_nil {t kt et:TypeId} (hu:P.underlying t=some (.map kt et)) (K:Maps.Keyed P kt) {z:D} (hz:Ji P et=some z) {k:D} {vx vk:Value} (hx:VR W C .nilm vx) (hkv:VR W C k vk) (hk:keyOk P kt k=true) (ok:Bool):
  ∃u,(Instr.lookup t vx vk ok).run P W=.ok u W/\VR W C (if ok then .tup [z,.bool false] else z) u:=by
 cases hx
 obtain⟨v',y,hlit,hy⟩:=keyOk_spec hk
 have:=litV_vr hkv hlit
 subst this
 have hch:=λem=>K.check W em hy
 obtain⟨zv,hzr,-,hzv⟩:=run_zero hz
 have hzvr:=Ju (W:=W) (C:=C) hzv
 rcases K.find W hy [] (λe he=>by simp at he) with ⟨hf,hn⟩ | ⟨j,e,hf,hj,hke⟩
 ·cases ok with
  |true=>exact⟨.tuple #[zv,.bool false],by simp[Instr.lookup,run_underlying hu,hch,hf,hzr,Result.andThen],VR.tup_of (VRs.cons hzvr (VRs.cons (.bool _) VRs.nil))⟩
  |false=>exact⟨zv,by simp[Instr.lookup,run_underlying hu,hch,hf,hzr,Result.andThen],hzvr⟩
 ·simp at hj
theorem heap_set_size (W:World) (g:Nat) (o:Obj):({ W with heap:=W.heap.setIfInBounds g o }:World).heap.size=W.heap.size:=by simp
theorem heap_set_other (W:World) (g:Nat) (o:Obj) (b:Nat) (h:b≠g):({ W with heap:=W.heap.setIfInBounds g o }:World).heap[b]?=W.heap[b]? :=by simp[Ne.symm h]
theorem heap_set_same (W:World) (g:Nat) (o:Obj) (h:g<W.heap.size):({ W with heap:=W.heap.setIfInBounds g o }:World).heap[g]?=some o:=by simp[h]
theorem run_setMap {r:Nat} {es:Array MapEntry} {clock:Nat} (hb:W.heap[r]?=some (.map es clock)) (o:Obj):(setObj r o).run P W=.ok () { W with heap:=W.heap.setIfInBounds r o }:=by
 simp[setObj,Sem.run,hb]
theorem run_mapUpdate' (hs:SR W C S) (hP:C.P=P) {t kt et:TypeId} (hu:P.underlying t=some (.map kt et)) (K:Maps.Keyed P kt) {r:Nat} {l:List (D×D)} (hr:S[r]?=some (.map kt l)) {k v:D} {vx vk vv:Value} (hx:VR W C (.map r) vx) (hkv:VR W C k vk) (hk:keyOk P kt k=true) (hvv:VR W C v vv):
  ∃W',(Instr.mapUpdate t vx vk vv).run P W=.ok () W'/\SR W' C (S.set r (.map kt (putM l k v)))/\Fr W C S W' C (S.set r (.map kt (putM l k v))):=by
 cases hx with
 |map hrr=>
  rename_i g sz tot T
  obtain⟨⟨es,clock,m,hb,hmp,hst1,hl,hok,hd,hv⟩,hnI,hlt⟩:=hs.at hr (by simp) hrr
  obtain⟨hch,hlit,hst,hcase⟩:=find_run hP K hl hok hd hv hkv hk
  rcases hcase with ⟨hf,hlook,hno⟩ | ⟨j,e,p,hf,hj,hke,hp,hpk,hlook,hoth⟩
  ·have hput:=hs.put (ob':=.map kt (putM l k v)) (W':={ W with heap:=W.heap.setIfInBounds g (.map (es.push { key:=vk,val:=vv,born:=clock }) (clock+1)) }) hr (by simp) hrr rfl rfl rfl (heap_set_size _ _ _) (λb hb=>heap_set_other W g _ b hb) (λhm=>by
    have hpm:=putM_perm (v:=v) hmp (lone_none hno)
    rw[putM_new hno]at hpm
    refine⟨_,_,_,heap_set_same W g _ hlt,hpm,⟨?_,?_⟩,by simp[hl],λq hq=>?_,?_,λi q e' hq he=>?_⟩
    ·rw[Array.toList_push,List.map_append,Uy,List.map_nil,List.nodup_append]
     refine⟨hst1.1,by simp,λa ha b hb e=>?_⟩
     simp only[List.mem_singleton]at hb
     obtain⟨x,hx,rfl⟩:=Vq.1 ha
     have:=hst1.2 x hx
     omega
    ·intro e he
     rw[Array.toList_push,List.mem_append]at he
     rcases he with he |he
     ·have:=hst1.2 e he;omega
     ·simp only[List.mem_singleton]at he;subst he;exact Nat.lt_succ_self _
    ·rcases List.mem_append.1 hq with hq |hq
     ·exact hok q hq
     ·simp only[List.mem_singleton]at hq;subst hq;rw[hP];exact hk
    ·rw[List.pairwise_append]
     exact⟨hd,by simp,λa ha b hb=>by simp only[List.mem_singleton]at hb;subst hb;exact hno a ha⟩
    ·rcases Kh hq with ⟨rfl,rfl⟩ | ⟨hil,hq⟩
     ·rw[hl,Array.getElem?_push_size]at he
      cases he
      exact⟨hm _ _ hkv,hm _ _ hvv⟩
     ·rw[Array.getElem?_push,if_neg (by omega)]at he
      exact⟨hm _ _ (hv i q e' hq he).1,hm _ _ (hv i q e' hq he).2⟩)
   refine⟨_,?_,hput.1,hput.2⟩
   simp[Instr.mapUpdate,run_underlying hu,MapKept.run_getObj_map hb,hch,hf,run_setMap hb,Result.andThen]
  ·have hput:=hs.put (ob':=.map kt (putM l k v)) (W':={ W with heap:=W.heap.setIfInBounds g (.map (es.modify j λe=>{ e with key:=vk,val:=vv }) clock) }) hr (by simp) hrr rfl rfl rfl (heap_set_size _ _ _) (λb hb=>heap_set_other W g _ b hb) (λhm=>by
    have hpm:=putM_perm (v:=v) hmp (lone_one hoth)
    rw[putM_old hp hpk hoth]at hpm
    have hjl:j<es.size:=(Array.getElem?_eq_some_iff.1 hj).1
    have hjl':j<m.length:=by omega
    have hpok:=hok p (Kx hp)
    have hborn:(es.modify j λe=>{ e with key:=vk,val:=vv }).toList.map (·.born)=es.toList.map (·.born):=by
     refine List.ext_getElem? λi=>?_
     rw[Vd,Vd,Ul,Ul,Array.getElem?_modify]
     split
     ·rename_i hij;subst hij;cases es[j]? <;> rfl
     ·rfl
    refine⟨_,_,_,heap_set_same W g _ hlt,hpm,⟨by rw[hborn];exact hst1.1,?_⟩,by simp[hl],λq hq=>?_,?_,λi q e' hq he=>?_⟩
    ·intro e' he'
     have h1:e'.born∈es.toList.map (·.born):=by rw[<-hborn];exact List.mem_map_of_mem he'
     obtain⟨x,hx,hxe⟩:=Vq.1 h1
     rw[<-hxe];exact hst1.2 x hx
    ·rcases List.mem_or_eq_of_mem_set hq with hq |rfl
     ·exact hok q hq
     ·exact hpok
    ·rw[List.pairwise_iff_getElem]at hd ⊢
     intro a b ha hb' hab
     have hpe:m[j]=p:=by rw[Uh hjl']at hp;exact Kz hp
     have key:∀(i:Nat) (hi:i<(m.set j (p.1,v)).length),((m.set j (p.1,v))[i]).1=(m[i]'(by simpa using hi)).1:=by
      intro i hi
      rw[List.getElem_set]
      split
      ·rename_i hij;subst hij;rw[hpe]
      ·rfl
     rw[key a ha,key b hb']
     exact hd a b (by simpa using ha) (by simpa using hb') hab
    ·rw[Array.getElem?_modify]at he
     rcases Zv hq with ⟨rfl,rfl,-⟩ | ⟨hne,hq⟩
     ·rw[if_pos rfl,hj]at he
      cases he
      refine⟨?_,hm _ _ hvv⟩
      have:=(hv i p e hp hj).1
      rw[hke]at this
      exact hm _ _ this
     ·rw[if_neg (Ne.symm hne)]at he
      exact⟨hm _ _ (hv i q e' hq he).1,hm _ _ (hv i q e' hq he).2⟩)
   refine⟨_,?_,hput.1,hput.2⟩
   have hjk:((es[j]?).map (·.key)).getD vk=vk:=by rw[hj];exact hke
   simp only[Instr.mapUpdate,Sem.run_bind,run_underlying hu,Result.andThen_ok,MapKept.run_getObj_map hb,hch,hf,hjk,hst,run_setMap hb]
theorem run_delete' (hs:SR W C S) (hP:C.P=P) {t kt et ty:TypeId} {ts:Array TypeId} (hts:ts[0]?=some t) (hu:P.underlying t=some (.map kt et)) (K:Maps.Keyed P kt) {r:Nat} {l:List (D×D)} (hr:S[r]?=some (.map kt l)) {k:D} {vx vk:Value} (hx:VR W C (.map r) vx) (hkv:VR W C k vk) (hk:keyOk P kt k=true):
  ∃W',(Builtin.delete_ ts ty #[vx,vk]).run P W=.ok (.tuple #[]) W'/\SR W' C (S.set r (.map kt (delM l k)))/\Fr W C S W' C (S.set r (.map kt (delM l k))):=by
 cases hx with
 |map hrr=>
  rename_i g sz tot T
  obtain⟨⟨es,clock,m,hb,hmp,hst1,hl,hok,hd,hv⟩,hnI,hlt⟩:=hs.at hr (by simp) hrr
  obtain⟨hch,hlit,hst,hcase⟩:=find_run hP K hl hok hd hv hkv hk
  rcases hcase with ⟨hf,hlook,hno⟩ | ⟨j,e,p,hf,hj,hke,hp,hpk,hlook,hoth⟩
  ·have hput:=hs.put (ob':=.map kt (delM l k)) (W':={ W with heap:=W.heap.setIfInBounds g (.map es clock) }) hr (by simp) hrr rfl rfl rfl (heap_set_size _ _ _) (λb hb=>heap_set_other W g _ b hb) (λhm=>by
    have hpm:=delM_perm hmp (lone_none hno)
    rw[delM_none hno]at hpm
    exact⟨_,_,_,heap_set_same W g _ hlt,hpm,hst1,hl,hok,hd,λi q e' hq he=>⟨hm _ _ (hv i q e' hq he).1,hm _ _ (hv i q e' hq he).2⟩⟩)
   refine⟨_,?_,hput.1,hput.2⟩
   simp[Builtin.delete_,hts,run_underlying hu,MapKept.run_getObj_map hb,hch,hf,run_setMap hb,Result.andThen]
  ·have hput:=hs.put (ob':=.map kt (delM l k)) (W':={ W with heap:=W.heap.setIfInBounds g (.map (es.eraseIdxIfInBounds j) clock) }) hr (by simp) hrr rfl rfl rfl (heap_set_size _ _ _) (λb hb=>heap_set_other W g _ b hb) (λhm=>by
    have hpm:=delM_perm hmp (lone_one hoth)
    rw[delM_old hp hpk hoth]at hpm
    have hjl:j<es.size:=(Array.getElem?_eq_some_iff.1 hj).1
    have hjl':j<m.length:=by omega
    have hE:(es.eraseIdxIfInBounds j).toList=es.toList.eraseIdx j:=by simp[Array.eraseIdxIfInBounds,hjl]
    refine⟨_,_,_,heap_set_same W g _ hlt,hpm,⟨?_,?_⟩,?_,λq hq=>hok q (List.mem_of_mem_eraseIdx hq),hd.sublist (List.eraseIdx_sublist _ _),λi q e' hq he=>?_⟩
    ·rw[hE];exact hst1.1.sublist ((List.eraseIdx_sublist _ _).map _)
    ·intro e he;rw[hE]at he;exact hst1.2 e (List.mem_of_mem_eraseIdx he)
    ·have:(es.eraseIdxIfInBounds j).toList.length=es.size-1:=by rw[hE,List.length_eraseIdx_of_lt (by simpa using hjl)];simp
     rw[List.length_eraseIdx_of_lt hjl',hl,<-this,Array.length_toList]
    ·rw[<-Ul,hE,List.getElem?_eraseIdx]at he
     rw[List.getElem?_eraseIdx]at hq
     split at hq
     ·rename_i hij;rw[if_pos hij]at he
      have:=hv i q e' hq (by simpa using he)
      exact⟨hm _ _ this.1,hm _ _ this.2⟩
     ·rename_i hij;rw[if_neg hij]at he
      have:=hv (i+1) q e' hq (by simpa using he)
      exact⟨hm _ _ this.1,hm _ _ this.2⟩)
   refine⟨_,?_,hput.1,hput.2⟩
   simp[Builtin.delete_,hts,run_underlying hu,MapKept.run_getObj_map hb,hch,hf,run_setMap hb,Result.andThen]
/-! A range over a map without pairs. -/
theorem run_range0 {t kt et:TypeId} (hs:SR W C S) (hu:P.underlying t=some (.map kt et)):∃u W' C',(Instr.range t (.map none)).run P W=.ok u W'/\VR W' C' .it0 u/\SR W' C' S/\Fr W C S W' C' S:=by
 obtain⟨h1,h2⟩:=hs.immNew (.mapIter none 0 #[] 0)
 have hI:(C.imm W.heap.size).I W.heap.size:=by first |exact .inr rfl |exact .inl rfl
 refine⟨.pointer (some ⟨W.heap.size,0,none⟩),_,_,?_,.it0 hI (heap_alloc_new W _),h1,h2⟩
 simp[Instr.range,run_underlying hu]
theorem run_rangeE {t kt kt' et:TypeId} (hs:SR W C S) (hu:P.underlying t=some (.map kt et)) {r:Nat} (hr:S[r]?=some (.map kt' [])) {v:Value} (hv:VR W C (.map r) v):∃u W' C',(Instr.range t v).run P W=.ok u W'/\VR W' C' (.itE r) u/\SR W' C' S/\Fr W C S W' C' S:=by
 cases hv with
 |map hrr=>
  obtain⟨⟨es,clock,m,hb,-⟩,-,-⟩:=hs.at hr (by simp) hrr
  obtain⟨h1,h2⟩:=hs.immNew (.mapIter (some _) clock #[] clock)
  have hI:(C.imm W.heap.size).I W.heap.size:=by first |exact .inr rfl |exact .inl rfl
  exact⟨_,_,_,run_range_map W t kt et _ es clock hu hb,.itE (h2.R _ _ hrr) hI (heap_alloc_new W _) (Uk _),h1,h2⟩
theorem run_next0 {v:Value} {ty:TypeId} (hv:VR W C .it0 v):(Instr.next v false ty).run P W=.ok (.tuple #[.bool false]) W:=by
 cases hv with
 |it0 hg hh=>simp[Instr.next,getObj,Sem.run,hh,Result.andThen]
theorem run_nextE (hs:SR W C S) {r:Nat} {kt:TypeId} (hr:S[r]?=some (.map kt [])) {v:Value} {ty:TypeId} (hv:VR W C (.itE r) v):(Instr.next v false ty).run P W=.ok (.tuple #[.bool false]) W:=by
 cases hv with
 |itE hrr hg hh hl=>
  obtain⟨⟨es,clock,m,hb,hm,-,hsz,-⟩,-,-⟩:=hs.at hr (by simp) hrr
  have hes:es=#[]:=by
   have:=hm.length_eq
   exact Array.eq_empty_of_size_eq_zero (by rw[<-hsz,this];rfl)
  subst hes
  rcases run_next_at (P:=P) W ty _ _ _ _ #[] #[] clock hh hb (λx hx=>by simp at hx) hl with ⟨-,h⟩ | ⟨e,he,-⟩
  ·exact h
  ·simp[leftOf]at he
end
end Go.Proofs.YtaklebjoenophaaGreat.Dm
