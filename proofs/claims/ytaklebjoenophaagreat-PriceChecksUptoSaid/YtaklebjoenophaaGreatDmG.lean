/-
  Regions of the machine: in order, and in whatever order where the region draws one.
-/
import Derived.Test.YtaklebjoenophaaGreatDmC
import Derived.Orders
set_option linter.unusedSimpArgs false
set_option linter.unusedVariables false
namespace Go.Proofs.YtaklebjoenophaaGreat.Dm
open Go Go.RowKit
structure St (E:Env) (W:World) (C:Cx) (S:List Ob) (act:List D) (a:Act):Prop where
 sr:SR W C S
 p:C.P=E.P
 g:GR W C E.G
 a:AR W C act a
theorem yl_spec {W:World} {C:Cx} {act:List D} {a:Act} (hA:AR W C act a) (ops:Array Oper) {j:Nat} {y:Option Bool} (h:ylD ops act j=some y):yielded ops a.tmps j=y:=by
 unfold ylD at h
 unfold yielded
 split at h
 ·rename_i hd
  cases h
  rw[hd];rfl
 ·rename_i t hd
  rw[hd]
  have hlen:=hA.vals.1
  split at h
  ·rename_i hn
   cases h
   have:a.tmps[t]?=none:=by
    rw[List.getElem?_eq_none_iff]at hn
    rw[Array.getElem?_eq_none_iff]
    simp only[Array.length_toList]at hlen
    omega
   simp[this]
  ·rename_i b hb
   cases h
   obtain⟨v,hv,hr⟩:=hA.vals.get hb
   rw[Ul]at hv
   cases hr
   simp[hv]
  ·cases h
  ·rename_i d hnb hnu hd'
   cases h
   obtain⟨v,hv,hr⟩:=hA.vals.get hd'
   rw[Ul]at hv
   simp only[Option.bind_some,hv]
   cases hr <;> first |rfl |exact (hnu rfl).elim |exact (hnb _ rfl).elim
theorem want_spec {W:World} {C:Cx} {act:List D} {a:Act} (hA:AR W C act a) (ops:Array Oper) {o:Oper} {b:Bool} (h:wantD ops act o=some b):Region.wanted o (yielded ops a.tmps)=b:=by
 unfold wantD at h
 unfold Region.wanted
 split at h
 ·rename_i hg;cases h;rw[hg]
 ·rename_i j want hg
  obtain⟨y,hy,rfl⟩:=Ks.1 h
  rw[hg]
  simp only[yl_spec hA ops hy]
section
variable {E : Env} {call : Call} (hE : EnvOk E) (hC : CallOk E call)
include hE hC
theorem step_wp {st:Bool} {ops:Array Oper} {o:Oper} {act act':List D} {a:Act} {S S':List Ob} {W:World} {C:Cx} (hs:St E W C S act a) (h:stepD E call st ops o act S=some (act',S')) {K:Act->World->Prop} {Q:Exit->Act->World->Prop}
  (hK:∀a' W' C',St E W' C' S' act' a'->Fr W C S W' C' S'->K a' W'):if Region.wanted o (yielded ops a.tmps)=true then o.wp E.P a W K Q else K (a.put o.dst undef) W:=by
 unfold stepD at h
 split at h
 ·cases h
 ·rename_i hw
  cases h
  rw[want_spec hs.a ops hw]
  simp only[Ui,if_false]
  exact hK _ W C ⟨hs.sr,hs.p,hs.g,hs.a.put _ undef_vr⟩ (Fr.refl _ _ _)
 ·rename_i hw
  rw[want_spec hs.a ops hw]
  simp only[if_true]
  split at h
  ·rename_i d S1 hd
   cases h
   refine op_wp hE hC hs.sr hs.p hs.g hs.a hd (λv W' C' hv hs' hf=>?_)
   exact hK _ W' C' ⟨hs',hf.P.trans hs.p,hs.g.fr hs.sr hf,(hs.a.fr hs.sr hf).put _ hv⟩ hf
  ·cases h
omit hE hC in
theorem ops_drop {ops:Array Oper} {o:Oper} {l:List Oper} {k:Nat} (hl:∀j,(o::l)[j]?=ops[k+j]?):ops[k]?=some o/\∀j,l[j]?=ops[k+1+j]? :=by
 refine⟨by have:=hl 0;simpa using this.symm,λj=>?_⟩
 have:=hl (j+1)
 rw[Ky]at this
 rw[this];congr 1;omega
theorem run_wp {st:Bool} {ops:Array Oper} {Q:Exit->Act->World->Prop}:∀ {l:List Oper} {k:Nat} {act act':List D} {a:Act} {S S':List Ob} {W:World} {C:Cx},(∀j,l[j]?=ops[k+j]?)->St E W C S act a->runD E call st ops l act S=some (act',S')->
  (∀a' W' C',St E W' C' S' act' a'->Fr W C S W' C' S'->Q .normal a' W')->wpOps E.P ops Q (List.range' k l.length) a W
 | [],k,act,act',a,S,S',W,C,_,hs,h,hQ=>by
  simp[runD]at h
  obtain⟨rfl,rfl⟩:=h
  exact hQ a W C hs (Fr.refl _ _ _)
 |o::l,k,act,act',a,S,S',W,C,hl,hs,h,hQ=>by
  obtain⟨ho,hl'⟩:=ops_drop hl
  unfold runD at h
  split at h
  ·rename_i a1 S1 h1
   rw[Uu,List.range'_succ]
   unfold wpOps
   rw[ho]
   dsimp only
   have:=step_wp hE hC hs h1 (K:=wpOps E.P ops Q (List.range' (k+1) l.length)) (Q:=Q) (λa' W' C' hs' hf=>run_wp hl' hs' h (λa2 W2 C2 hs2 hf2=>hQ a2 W2 C2 hs2 (hf.trans hf2)))
   split
   ·rename_i hw;rw[if_pos hw]at this;exact .inl this
   ·rename_i hw;rw[if_neg hw]at this;exact this
  ·cases h
/-! ### Whatever order -/
def dAny (step:Nat->Oper->List D->List Ob->Option (List D×List Ob)) (ops:Array Oper) (r:List D×List Ob):Nat->Array Bool->List D->List Ob->Prop
 |0,listed,a,S=>Region.ready .any ops listed=[]/\(a,S)=r
 |n+1,listed,a,S=>(Region.ready .any ops listed=[]->(a,S)=r)/\∀i∈Region.ready .any ops listed,∀o,ops[i]?=some o->∃a' S',step i o a S=some (a',S')/\dAny step ops r n (listed.setIfInBounds i true) a' S'
omit hE hC in
theorem ready_lt {ops:Array Oper} {listed:Array Bool} {i:Nat} (h:i∈Region.ready .any ops listed):i<ops.size/\listed.getD i true=false/\∀o,ops[i]?=some o->∀e∈o.after,Region.binds .any e=true->listed.getD e.on false=true:=by
 unfold Region.ready at h
 rw[List.mem_filter]at h
 obtain⟨h1,h2⟩:=h
 rw[List.mem_range]at h1
 simp only[Kv,Bool.not_eq_true']at h2
 refine⟨h1,h2.1,λo ho e he hb=>?_⟩
 rw[ho]at h2
 simp only[Vm,Option.getD_some,Array.all_eq_true']at h2
 have:=h2.2 e he
 simpa [hb] using this
theorem dAny_sound {st:Bool} {ops:Array Oper} {act':List D} {S':List Ob} {Q:Exit->Act->World->Prop} {W0:World} {C0:Cx} {S0:List Ob} (hQ:∀a' W' C',St E W' C' S' act' a'->Fr W0 C0 S0 W' C' S'->Q .normal a' W'):
  ∀ {n:Nat} {listed:Array Bool} {act:List D} {a:Act} {S:List Ob} {W:World} {C:Cx},St E W C S act a->Fr W0 C0 S0 W C S->dAny (λ_ o a S=>stepD E call st ops o a S) ops (act',S') n listed act S->wpAny E.P .any ops Q n listed a W
 |0,listed,act,a,S,W,C,hs,hf,h=>by
  obtain⟨h1,h2⟩:=h
  cases h2
  exact⟨h1,hQ a W C hs hf⟩
 |n+1,listed,act,a,S,W,C,hs,hf,h=>by
  obtain⟨h1,h2⟩:=h
  refine⟨λh0=>by cases h1 h0;exact hQ a W C hs hf,λi hi=>?_⟩
  obtain⟨hlt,-,-⟩:=ready_lt hi
  have ho:ops[i]?=some ops[i]:=Uz hlt
  obtain⟨a1,S1,hst,hd⟩:=h2 i hi _ ho
  unfold wpOp
  rw[ho]
  dsimp only
  have:=step_wp hE hC hs hst (K:=wpAny E.P .any ops Q n (listed.setIfInBounds i true)) (Q:=Q) (λa' W' C' hs' hf'=>dAny_sound hQ hs' (hf.trans hf') hd)
  split
  ·rename_i hw;rw[if_pos hw]at this;exact .inl this
  ·rename_i hw;rw[if_neg hw]at this;exact this
omit hE hC
/-! ### Operations that change places -/
theorem evD_put {act:List D} {dst:Option Tmp} {d:D} {x:Operand} (h:∀t,dst=some t->x≠.tmp t):evD E (putD act dst d) x=evD E act x:=by
 cases dst with
 |none=>rfl
 |some t=>
  cases x with
  |tmp u=>
   have:t≠u:=λe=>h t rfl (by rw[e])
   simp[evD,putD,Kt this]
  |_=>rfl
theorem map_congr' {ev ev':Operand->D} {l:List Operand} (h:∀x∈l,ev x=ev' x):l.map ev=l.map ev':=List.map_congr_left h
theorem parts_congr {ev ev':Operand->D} {l:List (Nat×Operand)} (h:∀x∈l.map (·.2),ev x=ev' x):l.map (λp=>(p.1,ev p.2))=l.map (λp=>(p.1,ev' p.2)):=
 List.map_congr_left λp hp=>by rw[h p.2 (Vq.2 ⟨p,hp,rfl⟩)]
theorem opt_congr {ev ev':Operand->D} {o:Option Operand} (h:∀x∈o.toArray,ev x=ev' x):o.map ev=o.map ev':=by
 cases o with
 |none=>rfl
 |some x=>simp[h x (by simp)]
theorem dOp_congr {st:Bool} {S:List Ob} {op:Op} {ev ev':Operand->D} (h:∀x∈op.operands,ev x=ev' x):dOp E call st ev S op=dOp E call st ev' S op:=by
 cases op with
 |build t parts=>simp only[Op.operands,List.mem_toArray]at h;simp only[dOp,parts_congr h]
 |buildSlice t n parts=>simp only[Op.operands,List.mem_toArray]at h;simp only[dOp,parts_congr h]
 |makeFunc fn x y=>
  simp only[Op.operands,Array.mem_append]at h
  cases fn with
  |func f=>
   simp only[dOp]
   rw[map_congr' (l:=x.toList) (λz hz=>h z (.inl (by simpa using hz))),map_congr' (l:=y.toList) (λz hz=>h z (.inr (by simpa using hz)))]
  |_=>rfl
 |makeMap t r=>cases r <;> rfl
 |slice t x lo hi mx=>
  simp only[Op.operands,Array.mem_append]at h
  simp only[dOp]
  rw[h x (by simp),opt_congr (λz hz=>h z (.inl (.inl (.inr hz)))),opt_congr (λz hz=>h z (.inl (.inr hz))),opt_congr (λz hz=>h z (.inr hz))]
 |call c=>
  obtain⟨callee,args,tys⟩:=c
  simp only[Op.operands,Call.operands,Array.mem_append]at h
  have ha:=map_congr' (l:=args.toList) (λz hz=>h z (.inr (by simpa using hz)))
  cases callee with
  |value f=>
   have hf:=h f (.inl (by simp))
   cases f <;> simp only[dOp,ha] <;> rw[hf]
  |builtin b=>simp only[dOp];rw[ha]
  |invoke r m=>rfl
 |alloc t=>rfl
 |pick c x y=>simp only[Op.operands]at h;simp only[dOp,h c (by simp),h x (by simp),h y (by simp)]
 |mapUpdate t m k v=>simp only[Op.operands]at h;simp only[dOp,h m (by simp),h k (by simp),h v (by simp)]
 |insert t m k v=>simp only[Op.operands]at h;simp only[dOp,h m (by simp),h k (by simp),h v (by simp)]
 |store t x v=>simp only[Op.operands]at h;simp only[dOp,h x (by simp),h v (by simp)]
 |binOp op t x y u=>simp only[Op.operands]at h;simp only[dOp,h x (by simp),h y (by simp)]
 |makeSlice t x y=>simp only[Op.operands]at h;simp only[dOp,h x (by simp),h y (by simp)]
 |indexAddr t x y=>simp only[Op.operands]at h;simp only[dOp,h x (by simp),h y (by simp)]
 |index t x y=>simp only[Op.operands]at h;simp only[dOp,h x (by simp),h y (by simp)]
 |lookup t x y ok=>simp only[Op.operands]at h;simp only[dOp,h x (by simp),h y (by simp)]
 |move x=>simp only[Op.operands]at h;simp only[dOp,h x (by simp)]
 |assign x=>simp only[Op.operands]at h;simp only[dOp,h x (by simp)]
 |box t x=>simp only[Op.operands]at h;simp only[dOp,h x (by simp)]
 |load t x=>simp only[Op.operands]at h;simp only[dOp,h x (by simp)]
 |nilCheck x=>simp only[Op.operands]at h;simp only[dOp,h x (by simp)]
 |unOp o t x=>simp only[Op.operands]at h;simp only[dOp,h x (by simp)]
 |convert s t x=>simp only[Op.operands]at h;simp only[dOp,h x (by simp)]
 |makeInterface t x=>simp only[Op.operands]at h;simp only[dOp,h x (by simp)]
 |fieldAddr t x f=>simp only[Op.operands]at h;simp only[dOp,h x (by simp)]
 |field t x f=>simp only[Op.operands]at h;simp only[dOp,h x (by simp)]
 |extract t i=>simp only[Op.operands]at h;simp only[dOp,h t (by simp)]
 |typeAssert x xt as ok=>simp only[Op.operands]at h;simp only[dOp,h x (by simp)]
 |range t x=>simp only[Op.operands]at h;simp only[dOp,h x (by simp)]
 |next x b=>cases b <;> simp only[Op.operands]at h <;> simp only[dOp,h x (by simp)]
 |_=>rfl
theorem cl_N {st:Bool} {op:Op} (ev:Operand->D) (hev:∀g,ev (.func g)=.func g [] []) (h:clO E st op=.N):∃r:Option D,∀S,dOp E call st ev S op=r.map (·,S):=by
 have none':∀ {f:List Ob->Option (D×List Ob)},(∀S,f S=none)->∃r:Option D,∀S,f S=r.map (·,S):=λhf=>⟨none,λS=>by rw[hf];rfl⟩
 have some':∀ {f:List Ob->Option (D×List Ob)} (d:D),(∀S,f S=some (d,S))->∃r:Option D,∀S,f S=r.map (·,S):=λd hf=>⟨some d,λS=>by rw[hf];rfl⟩
 cases op with
 |move x=>exact some' _ λS=>rfl
 |assign x=>exact some' _ λS=>rfl
 |pick c x y=>
  simp only[dOp]
  cases ev c <;> first |exact some' _ λS=>rfl |exact none' λS=>rfl
 |build t parts=>exact⟨_,λS=>rfl⟩
 |buildSlice t n parts=>exact⟨_,λS=>rfl⟩
 |nilCheck x=>
  simp only[dOp]
  cases ev x <;> first |exact some' _ λS=>rfl |exact none' λS=>rfl
 |binOp op t x y u=>exact⟨_,λS=>rfl⟩
 |unOp o t x=>exact⟨_,λS=>rfl⟩
 |convert s t x=>exact⟨_,λS=>rfl⟩
 |makeFunc fn x y=>cases fn <;> first |exact some' _ λS=>rfl |exact none' λS=>rfl
 |makeInterface t x=>
  simp only[dOp]
  split
  ·exact none' λS=>rfl
  ·exact some' _ λS=>rfl
  ·exact none' λS=>rfl
 |typeAssert x xt as ok=>
  simp only[dOp]
  split
  ·split
   ·exact some' _ λS=>rfl
   ·exact none' λS=>rfl
  ·exact none' λS=>rfl
 |fieldAddr t x f=>exact⟨_,λS=>rfl⟩
 |field t x f=>exact⟨_,λS=>rfl⟩
 |index t x i=>
  simp only[dOp]
  cases ev i <;> first |exact⟨_,λS=>rfl⟩ |exact none' λS=>rfl
 |extract t i=>
  simp only[dOp]
  cases ev t <;> first |exact⟨_,λS=>rfl⟩ |exact none' λS=>rfl
 |call c=>
  obtain⟨callee,args,tys⟩:=c
  cases callee with
  |builtin b=>
   cases b <;> simp only[clO,reduceCtorEq]at h
   ·simp only[dOp,dBuiltin]
    split <;> simp_all <;> exact⟨_,λS=>rfl⟩
   ·simp only[dOp,dBuiltin]
    split <;> simp_all <;> exact⟨_,λS=>rfl⟩
  |value f=>
   cases f with
   |func g=>
    simp only[clO]at h
    cases hov:E.ext g with
    |some t=>simp[hov]at h
    |none=>
    simp only[hov,Option.isSome_none,Ui,if_false]at h
    split at h
    ·cases h
    split at h
    ·cases h
    ·split at h
     ·rename_i hm
      simp only[Kv,Up]at hm
      obtain⟨rfl,hm⟩:=hm
      simp only[dOp,hov,Yi,hm,if_true]
      split
      ·split
       ·exact⟨_,λS=>rfl⟩
       ·exact none' λS=>rfl
      ·exact none' λS=>rfl
     ·cases h
   |_=>simp only[clO]at h;split at h <;> cases h
  |invoke r m=>simp[clO]at h
 |_=>simp[clO]at h
def KeepS (f:List Ob->Option (D×List Ob)):Prop:=∀S,∃r:Option D,f S=r.map (·,S)
theorem KeepS.none' {f:List Ob->Option (D×List Ob)} (hf:∀S,f S=none):KeepS f:=λS=>⟨none,by rw[hf];rfl⟩
theorem Xz (S:List Ob):∃r:Option D,(none:Option (D×List Ob))=r.map (·,S):=⟨none,rfl⟩
theorem keep_some (d:D) (S:List Ob):∃r:Option D,some (d,S)=r.map (·,S):=⟨some d,rfl⟩
theorem cl_RO {st:Bool} {op:Op} (ev:Operand->D) (hev:∀g,ev (.func g)=.func g [] []) (h:clO E st op=.R∨clO E st op=.O) (S:List Ob):∃r:Option D,dOp E call st ev S op=r.map (·,S):=by
 cases op with
 |load t x=>exact⟨_,rfl⟩
 |slice t x lo hi mx=>exact⟨_,rfl⟩
 |range t x=>
  simp only[dOp]
  split
  ·exact keep_some _ S
  ·split
   ·exact keep_some _ S
   ·exact Xz S
  ·exact Xz S
 |next x b=>
  cases b with
  |true=>exact Xz S
  |false=>
   simp only[dOp]
   split
   ·exact keep_some _ S
   ·split
    ·exact keep_some _ S
    ·exact Xz S
   ·exact Xz S
 |indexAddr t x i=>
  simp only[dOp]
  split
  ·exact⟨_,rfl⟩
  ·exact Xz S
 |lookup t x k ok=>
  simp only[dOp]
  split
  ·split
   ·split
    ·exact keep_some _ S
    ·exact Xz S
   ·exact Xz S
  ·split
   ·split
    ·exact keep_some _ S
    ·exact Xz S
   ·exact Xz S
  ·exact Xz S
 |call c=>
  obtain⟨callee,args,tys⟩:=c
  cases callee with
  |builtin b=>
   cases b <;> simp only[clO,reduceCtorEq,or_self]at h
   simp only[dOp,dBuiltin]
   split <;> simp_all
   all_goals first |exact⟨_,rfl⟩ |exact Xz S
  |value f=>
   cases f with
   |func g=>
    simp only[clO]at h
    cases hov:E.ext g with
    |some t=>simp[hov]at h
    |none=>
    simp only[hov,Option.isSome_none,Ui,if_false]at h
    split at h
    ·rename_i hm
     simp only[Up]at hm
     simp only[dOp,hov,Yi,hm]
     split
     ·split
      ·exact⟨_,rfl⟩
      ·exact Xz S
     ·split
      ·split
       ·exact keep_some _ S
       ·exact Xz S
      ·exact Xz S
    ·split at h
     ·simp at h
     ·split at h <;> simp at h
   |_=>
    have hst:st=true:=by
     simp only[clO]at h
     cases st
     ·simp at h
     ·rfl
    subst hst
    simp only[dOp]
    split
    ·rename_i g first cap hg
     split
     ·exact Xz S
     ·rename_i hm
      simp only[Bool.true_and,Bool.not_eq_true',Bool.not_eq_false,Bool.or_eq_true,Up]at hm
      unfold Yi
      rcases hm with hm |hm
      ·rw[hm]
       dsimp only
       split
       ·split
        ·exact⟨_,rfl⟩
        ·exact Xz S
       ·exact Xz S
      ·rw[hm]
       dsimp only
       split
       ·split
        ·exact⟨_,rfl⟩
        ·exact Xz S
       ·split
        ·split
         ·exact keep_some _ S
         ·exact Xz S
        ·exact Xz S
    ·exact Xz S
  |invoke r m=>simp[clO]at h
 |_=>simp[clO]at h
theorem get_push {S:List Ob} {k:Nat} {ob:Ob} (h:S[k]?=some ob) (o:List Ob):(S++o)[k]?=some ob:=by
 rw[Ut (Kr.1 h).1];exact h
theorem cl_RX {st:Bool} {op:Op} (ev:Operand->D) (h:clO E st op=.R) {S S2:List Ob} (hx:∀(k:Nat) (ob:Ob),ob≠.dead->S[k]?=some ob->S2[k]?=some ob) {d:D} (hd:dOp E call st ev S op=some (d,S)):dOp E call st ev S2 op=some (d,S2):=by
 have up:∀ {x y:Option D},x.map (·,S)=some (d,S)->(x=some d->y=some d)->y.map (·,S2)=some (d,S2):=by
  intro x y hx hy
  obtain⟨d',hd',e⟩:=Ks.1 hx
  cases e
  rw[hy hd'];rfl
 cases op with
 |load t x=>
  refine up hd λh=>?_
  unfold dLoad at h ⊢
  split at h
  ·rename_i cs o' hb
   have:behind (S2) (ev x)=some (cs,o'):=by
    unfold behind at hb ⊢
    split at hb
    ·exact hb
    ·split at hb
     ·rename_i sz es hk
      rw[hx _ _ (by simp) hk];exact hb
     ·cases hb
    ·cases hb
   rw[this];exact h
  ·cases h
 |slice t x lo hi mx=>
  refine up hd λh=>?_
  unfold dSlice at h ⊢
  split at h
  case h_4=>
   split at h
   ·rename_i sz es hk
    rw[hx _ _ (by simp) hk];exact h
   ·cases h
  case h_5=>
   split at h
   ·rename_i sz es hk
    rw[hx _ _ (by simp) hk];exact h
   ·cases h
  all_goals first |exact h |cases h
 |range t x=>
  simp only[dOp]at hd ⊢
  split at hd
  ·cases hd;rfl
  ·split at hd
   ·rename_i hk
    cases hd
    rw[hx _ _ (by simp) hk]
   ·cases hd
  ·cases hd
 |next x b=>
  cases b with
  |true=>cases hd
  |false=>
   simp only[dOp]at hd ⊢
   split at hd
   ·cases hd;rfl
   ·split at hd
    ·rename_i hk
     cases hd
     rw[hx _ _ (by simp) hk]
    ·cases hd
   ·cases hd
 |indexAddr t x i=>
  simp only[dOp]at hd ⊢
  split at hd
  ·refine up hd λh=>?_
   unfold dIndexAddr at h ⊢
   split at h
   case h_2=>
    split at h
    ·rename_i hc
     rw[if_pos hc]
     split at h
     ·rename_i sz es hk
      rw[hx _ _ (by simp) hk];exact h
     ·cases h
    ·cases h
   all_goals first |exact h |cases h
  ·cases hd
 |lookup t x k ok=>
  simp only[dOp]at hd ⊢
  split at hd
  ·split at hd
   ·split at hd
    ·rename_i hc;cases hd;rw[if_pos hc]
    ·cases hd
   ·cases hd
  ·split at hd
   ·rename_i kt' l z hr hz
    split at hd
    ·rename_i hc
     cases hd
     rw[hx _ _ (by simp) hr,hz]
     dsimp only
     rw[if_pos hc]
    ·cases hd
   ·cases hd
  ·cases hd
 |call c=>
  obtain⟨callee,args,tys⟩:=c
  cases callee with
  |builtin b=>
   cases b <;> simp only[clO,reduceCtorEq]at h
   simp only[dOp,dBuiltin]at hd ⊢
   split at hd <;> simp_all
   rename_i t x
   unfold dLen at hd ⊢
   split at hd
   case h_7=>
    split at hd
    ·rename_i kt l hk
     rw[hx _ _ (by simp) hk];exact hd
    ·cases hd
   all_goals first |exact hd |cases hd
  |value f=>
   cases f with
   |func g=>
    simp only[clO]at h
    cases hov:E.ext g with
    |some t=>simp[hov]at h
    |none=>
    simp only[hov,Option.isSome_none,Ui,if_false]at h
    split at h
    ·cases h
    ·split at h
     ·cases h
     ·split at h <;> cases h
   |_=>simp only[clO]at h;split at h <;> cases h
  |invoke r m=>simp[clO]at h
 |_=>simp[clO]at h
theorem cl_RA {st:Bool} {op:Op} (ev:Operand->D) (h:clO E st op=.R) {S:List Ob} {d:D} (hd:dOp E call st ev S op=some (d,S)) (o:List Ob):dOp E call st ev (S++o) op=some (d,S++o):=
 cl_RX ev h (λ_ _ _ hk=>get_push hk o) hd
theorem keptS_split:∀ {S T:List Ob},keptS S T=true->T=S++T.drop S.length
 | [],T,_=>by simp
 |a::l,[],h=>by simp[keptS]at h
 |a::l,b::m,h=>by
  simp only[keptS,Kv]at h
  rw[beqOb_eq _ _ h.1]
  simp only[Uu,List.drop_succ_cons,Uv,List.cons.injEq,true_and]
  exact keptS_split h.2
theorem cl_A {st:Bool} {op:Op} (ev:Operand->D) (h:clO E st op=.A) {S S':List Ob} {d:D} (hd:dOp E call st ev S op=some (d,S')):∃o:List Ob,S'=S++o:=by
 cases op with
 |alloc t=>
  simp only[dOp]at hd
  split at hd
  ·split at hd
   ·cases hd;exact⟨_,rfl⟩
   ·cases hd
  ·cases hd
 |box t x=>
  simp only[dOp]at hd
  split at hd
  ·cases hd;exact⟨_,rfl⟩
  ·cases hd
 |makeSlice t l c=>
  simp only[dOp]at hd
  split at hd
  ·unfold dMakeSlice at hd
   split at hd
   ·split at hd
    ·split at hd
     ·cases hd;exact⟨_,rfl⟩
     ·cases hd
    ·cases hd
   ·cases hd
  ·cases hd
 |makeMap t r=>
  cases r with
  |none=>
   simp only[dOp]at hd
   split at hd
   ·cases hd;exact⟨_,rfl⟩
   ·cases hd
  |some r=>cases hd
 |call c=>
  obtain⟨callee,args,tys⟩:=c
  cases callee with
  |builtin b=>cases b <;> simp[clO]at h
  |value f=>
   cases f with
   |func g=>
    simp only[clO]at h
    cases hov:E.ext g with
    |some t=>simp[hov]at h
    |none=>
    simp only[hov,Option.isSome_none,Ui,if_false]at h
    split at h
    ·cases h
    ·split at h
     ·rename_i hm
      simp only[Up]at hm
      simp only[dOp,hov,Yi,hm]at hd
      split at hd
      ·split at hd
       ·rename_i hk;cases hd;exact⟨_,keptS_split hk⟩
       ·cases hd
      ·cases hd
     ·split at h <;> cases h
   |_=>simp only[clO]at h;split at h <;> cases h
  |invoke r m=>simp[clO]at h
 |_=>simp[clO]at h
def stepV (E:Env) (call:Call) (st:Bool) (ops:Array Oper) (o:Oper) (a:List D) (S:List Ob):Option (D×List Ob):=
 match wantD ops a o with
 |none=>none
 |some false=>some (.tup [],S)
 |some true=>dOp E call st (evD E a) S o.op
theorem stepD_eq {st:Bool} {ops:Array Oper} {o:Oper} {a a':List D} {S S':List Ob}:stepD E call st ops o a S=some (a',S')↔ ∃d,stepV E call st ops o a S=some (d,S')/\a'=putD a o.dst d:=by
 unfold stepD stepV
 cases hw:wantD ops a o with
 |none=>simp
 |some b=>
  cases b with
  |false=>
   dsimp only
   constructor
   ·intro h;cases h;exact⟨_,rfl,rfl⟩
   ·rintro⟨d,h,rfl⟩;cases h;rfl
  |true=>
   dsimp only
   cases hd:dOp E call st (evD E a) S o.op with
   |none=>simp
   |some p=>
    obtain⟨d,S1⟩:=p
    dsimp only
    constructor
    ·intro h;cases h;exact⟨_,rfl,rfl⟩
    ·rintro⟨d',h,rfl⟩;cases h;rfl
theorem stepV_put {st:Bool} {ops:Array Oper} {o:Oper} {a:List D} {dst:Option Tmp} {d:D} (h:∀t,dst=some t->t ∉ o.looksAt ops) (S:List Ob):stepV E call st ops o (putD a dst d) S=stepV E call st ops o a S:=by
 have hw:wantD ops (putD a dst d) o=wantD ops a o:=by
  unfold wantD
  split
  ·rfl
  ·rename_i j want hg
   congr 1
   unfold ylD
   split
   ·rfl
   ·rename_i t ht
    have hne:∀u,dst=some u->u≠t:=by
     intro u hu e
     subst e
     refine h u hu (List.mem_append_right _ ?_)
     rw[hg]
     simp[ht]
    have:(putD a dst d)[t]?=a[t]? :=by
     cases dst with
     |none=>rfl
     |some u=>simp[putD,Kt (hne u rfl)]
    rw[this]
 have ho:∀S,dOp E call st (evD E (putD a dst d)) S o.op=dOp E call st (evD E a) S o.op:=λS=>dOp_congr λx hx=>evD_put λt ht e=>by
  subst e
  exact h t ht (List.mem_append_left _ (List.mem_filterMap.2 ⟨.tmp t,by simpa using hx,rfl⟩))
 unfold stepV
 rw[hw,ho]
theorem putD_comm (a:List D) {x y:Option Tmp} (d e:D) (h:∀t,x=some t->y≠some t):putD (putD a x d) y e=putD (putD a y e) x d:=by
 cases x with
 |none=>rfl
 |some t=>
  cases y with
  |none=>rfl
  |some u=>
   have:t≠u:=λe=>h t rfl (by rw[e])
   simp only[putD]
   exact List.set_comm _ _ this
theorem step_swap {st:Bool} {ops:Array Oper} {x y:Oper} (hap:x.apart ops y=true) (hok:okPair (clO E st x.op) (clO E st y.op)=true) {a a1 a2:List D} {S S1 S2:List Ob} (h1:stepD E call st ops x a S=some (a1,S1)) (h2:stepD E call st ops y a1 S1=some (a2,S2)):
  ∃a' S',stepD E call st ops y a S=some (a',S')/\stepD E call st ops x a' S'=some (a2,S2):=by
 obtain⟨p1,p2,p3⟩:=Oper.apart_spec hap
 obtain⟨dx,hx,rfl⟩:=stepD_eq.1 h1
 obtain⟨dy,hy,rfl⟩:=stepD_eq.1 h2
 rw[stepV_put p1]at hy
 suffices hh:∃S',stepV E call st ops y a S=some (dy,S')/\stepV E call st ops x a S'=some (dx,S2) by
  obtain⟨S',q1,q2⟩:=hh
  exact⟨_,S',stepD_eq.2 ⟨dy,q1,rfl⟩,stepD_eq.2 ⟨dx,by rw[stepV_put p3];exact q2,by rw[putD_comm a dx dy p2]⟩⟩
 have nV:∀ {o:Oper},clO E st o.op=.N∨wantD ops a o=some false->∃r:Option D,∀S,stepV E call st ops o a S=r.map (·,S):=by
  intro o ho
  unfold stepV
  cases hw:wantD ops a o with
  |none=>exact⟨none,λS=>rfl⟩
  |some b=>
   cases b with
   |false=>exact⟨some (.tup []),λS=>rfl⟩
   |true=>
    rcases ho with ho |ho
    ·exact cl_N (evD E a) (λg=>rfl) ho
    ·rw[hw]at ho;cases ho
 have rV:∀ {o:Oper},clO E st o.op=.R∨clO E st o.op=.O->∀S,∃r:Option D,stepV E call st ops o a S=r.map (·,S):=by
  intro o ho S
  unfold stepV
  cases wantD ops a o with
  |none=>exact Xz S
  |some b=>
   cases b with
   |false=>exact keep_some _ S
   |true=>exact cl_RO (evD E a) (λg=>rfl) ho S
 have same:∀ {r:Option D} {S T:List Ob} {d:D},r.map (·,S)=some (d,T)->T=S/\r=some d:=by
  intro r S T d h
  obtain⟨d',hd',e⟩:=Ks.1 h
  cases e
  exact⟨rfl,hd'⟩
 by_cases hxN:clO E st x.op=.N∨wantD ops a x=some false
 ·obtain⟨r,hr⟩:=nV hxN
  rw[hr]at hx
  obtain⟨rfl,rfl⟩:=same hx
  exact⟨S2,hy,by rw[hr];rfl⟩
 ·by_cases hyN:clO E st y.op=.N∨wantD ops a y=some false
  ·obtain⟨r,hr⟩:=nV hyN
   rw[hr]at hy
   obtain⟨rfl,rfl⟩:=same hy
   exact⟨S,by rw[hr];rfl,hx⟩
  ·have hxn:clO E st x.op≠.N:=λe=>hxN (.inl e)
   have hyn:clO E st y.op≠.N:=λe=>hyN (.inl e)
   have hyA:∀ {S S':List Ob} {d:D},clO E st y.op=.A->stepV E call st ops y a S=some (d,S')->∃o:List Ob,S'=S++o:=by
    intro S S' d ha h
    unfold stepV at h
    split at h
    ·cases h
    ·rename_i hw;exact absurd (.inr hw) hyN
    ·exact cl_A (evD E a) ha h
   have hxR:∀ {S:List Ob} {d:D},clO E st x.op=.R->stepV E call st ops x a S=some (d,S)->∀o:List Ob,stepV E call st ops x a (S++o)=some (d,S++o):=by
    intro S d ha h o
    unfold stepV at h ⊢
    split at h
    ·cases h
    ·rename_i hw;exact absurd (.inr hw) hxN
    ·exact cl_RA (evD E a) ha h o
   have roro:(clO E st x.op=.R∨clO E st x.op=.O)->(clO E st y.op=.R∨clO E st y.op=.O)->∃S',stepV E call st ops y a S=some (dy,S')/\stepV E call st ops x a S'=some (dx,S2):=by
    intro hxo hyo
    obtain⟨r,hr⟩:=rV hxo S
    rw[hr]at hx
    obtain⟨rfl,rfl⟩:=same hx
    obtain⟨r',hr'⟩:=rV hyo S1
    rw[hr']at hy
    obtain⟨rfl,rfl⟩:=same hy
    exact⟨S2,by rw[hr'];rfl,by rw[hr];rfl⟩
   cases hcx:clO E st x.op <;> cases hcy:clO E st y.op <;> simp only[hcx,hcy,okPair,reduceCtorEq,Ui,ne_eq,Vp]at hok hxn hyn
   ·exact roro (.inl hcx) (.inl hcy)
   ·exact roro (.inl hcx) (.inr hcy)
   ·obtain⟨r,hr⟩:=rV (.inl hcx) S
    rw[hr]at hx
    obtain⟨rfl,rfl⟩:=same hx
    obtain⟨o,rfl⟩:=hyA hcy hy
    exact⟨_,hy,hxR hcx (by rw[hr];rfl) o⟩
   ·exact roro (.inr hcx) (.inl hcy)
   ·exact roro (.inr hcx) (.inr hcy)
theorem dAny_first {step:Nat->Oper->List D->List Ob->Option (List D×List Ob)} {ops:Array Oper} {r:List D×List Ob} {i:Nat} {oi:Oper} (hi:ops[i]?=some oi) (Inv:Array Bool->Prop) (hinv:∀listed j,Inv listed->j∈Region.ready .any ops listed->j≠i->Inv (listed.setIfInBounds j true))
  (hcomm:∀listed j oj,Inv listed->listed.getD i true=false->j∈Region.ready .any ops listed->j≠i->ops[j]?=some oj->∀a S a1 S1 a2 S2,step i oi a S=some (a1,S1)->step j oj a1 S1=some (a2,S2)->∃a' S',step j oj a S=some (a',S')/\step i oi a' S'=some (a2,S2)):
  ∀(n:Nat) (listed:Array Bool) (a:List D) (S:List Ob) (a1:List D) (S1:List Ob),Inv listed->listed.size=ops.size->i∈Region.ready .any ops listed->step i oi a S=some (a1,S1)->dAny step ops r n (listed.setIfInBounds i true) a1 S1->dAny step ops r (n+1) listed a S:=by
 have stays:∀(listed:Array Bool) (k j:Nat),listed.size=ops.size->k∈Region.ready .any ops listed->k≠j->k∈Region.ready .any ops (listed.setIfInBounds j true):=by
  intro listed k j hsz hk hne
  obtain⟨h1,h2,h3⟩:=ready_lt hk
  have ho:ops[k]?=some ops[k]:=Uz h1
  unfold Region.ready
  rw[List.mem_filter,List.mem_range]
  refine⟨h1,?_⟩
  have g1:(listed.setIfInBounds j true).getD k true=listed.getD k true:=by
   simp only[Uj,Array.getElem?_setIfInBounds_ne (Ne.symm hne)]
  rw[g1,h2,ho]
  simp only[Bool.not_false,Vm,Option.getD_some,Bool.true_and,Array.all_eq_true']
  intro e he
  cases hb:Region.binds .any e with
  |false=>rfl
  |true=>
   have:=h3 _ ho e he hb
   by_cases hej:j=e.on
   ·subst hej
    simp only[Uj]at this ⊢
    have hlt:e.on<listed.size:=by
     rcases Nat.lt_or_ge e.on listed.size with h |h
     ·exact h
     ·rw[Array.getElem?_eq_none h]at this;simp at this
    simp[hlt]
   ·simp only[Uj,Array.getElem?_setIfInBounds_ne hej]at this ⊢
    simpa using this
 intro n
 induction n with
 |zero=>
  intro listed a S a1 S1 hI hsz hrd h1 hd
  refine⟨λh0=>by rw[h0]at hrd;simp at hrd,λj hj oj hoj=>?_⟩
  by_cases hji:j=i
  ·subst hji
   rw[hi]at hoj;cases hoj
   exact⟨a1,S1,h1,hd⟩
  ·have:=stays listed j i hsz hj hji
   rw[hd.1]at this;simp at this
 |succ n ih=>
  intro listed a S a1 S1 hI hsz hrd h1 hd
  refine⟨λh0=>by rw[h0]at hrd;simp at hrd,λj hj oj hoj=>?_⟩
  by_cases hji:j=i
  ·subst hji
   rw[hi]at hoj;cases hoj
   exact⟨a1,S1,h1,hd⟩
  ·obtain⟨a2,S2,h2,hd2⟩:=hd.2 j (stays listed j i hsz hj hji) oj hoj
   obtain⟨a',S',q1,q2⟩:=hcomm listed j oj hI (ready_lt hrd).2.1 hj hji hoj a S a1 S1 a2 S2 h1 h2
   refine⟨a',S',q1,ih _ a' S' a2 S2 (hinv listed j hI hj hji) (by simpa using hsz) (stays listed i j hsz hrd (Ne.symm hji)) q2 ?_⟩
   rw[Array.setIfInBounds_comm _ _ (Ne.symm hji)]at hd2
   exact hd2
def ClosedL (ops:Array Oper) (listed:Array Bool):Prop:=∀(k:Nat) (o:Oper),ops[k]?=some o->listed.getD k true=true->∀e∈o.after,Region.binds .any e=true->listed.getD e.on false=true
theorem ahead_spec {ops:Array Oper} {b:Array Nat} (h:aheadOk ops b=true) {j i:Nat} (hj:j<ops.size) (hi:i<ops.size) (hb:(b.getD j 0).testBit i=true):∃o,ops[j]?=some o/\∃e∈o.after,Region.binds .any e=true/\(e.on=i∨(e.on<j/\(b.getD e.on 0).testBit i=true)):=by
 unfold aheadOk at h
 rw[List.all_eq_true]at h
 have h1:=h j (List.mem_range.2 hj)
 rw[List.all_eq_true]at h1
 have h2:=h1 i (List.mem_range.2 hi)
 rw[hb]at h2
 have ho:ops[j]?=some ops[j]:=Uz hj
 rw[ho]at h2
 simp only[Bool.not_true,Bool.false_or,Vm,Option.getD_some,Array.any_eq_true',Kv,Bool.or_eq_true,beq_iff_eq,Up]at h2
 obtain⟨e,he,h3,h4⟩:=h2
 exact⟨_,ho,e,he,h3,h4⟩
theorem ahead_listed {ops:Array Oper} {b:Array Nat} (h:aheadOk ops b=true) {listed:Array Bool} (hsz:listed.size=ops.size) (hc:ClosedL ops listed) {i:Nat} (hi:i<ops.size):∀(j:Nat),j<ops.size->(∀o,ops[j]?=some o->∀e∈o.after,Region.binds .any e=true->listed.getD e.on false=true)->(b.getD j 0).testBit i=true->listed.getD i false=true:=by
 intro j
 induction j using Nat.strongRecOn with
 |_ j ih=>
  intro hj hd hb
  obtain⟨o,ho,e,he,h1,h2⟩:=ahead_spec h hj hi hb
  have hl:=hd o ho e he h1
  rcases h2 with h2 | ⟨h2,h3⟩
  ·rw[<-h2];exact hl
  ·have hlt:e.on<ops.size:=by omega
   refine ih e.on h2 hlt (λo' ho'=>hc e.on o' ho' ?_) h3
   have hlt':e.on<listed.size:=by omega
   simp only[Uj,Uz hlt',Option.getD_some]at hl ⊢
   exact hl
theorem lin_spec {st:Bool} {ops:Array Oper} {b:Array Nat} (h:linWith E st ops b=true) {i j:Nat} {x y:Oper} (hx:ops[i]?=some x) (hy:ops[j]?=some y) (hij:i<j) (hb:(b.getD j 0).testBit i=false):okPair (clO E st x.op) (clO E st y.op)=true/\x.apart ops y=true:=by
 unfold linWith at h
 rw[List.all_eq_true]at h
 have m:∀ {k:Nat} {z:Oper},ops[k]?=some z->(z,k)∈ops.zipIdx.toList:=by
  intro k z hz
  rw[Array.toList_zipIdx,List.mk_mem_zipIdx_iff_getElem?]
  simpa using hz
 have h1:=h (y,j) (m hy)
 rw[List.all_eq_true]at h1
 have h2:=h1 (x,i) (m hx)
 simp only[hij,decide_true,Bool.not_true,hb,Bool.false_or,Kv]at h2
 exact h2
theorem back_spec {ops:Array Oper} (h:backOk ops=true) {j:Nat} {o:Oper} (ho:ops[j]?=some o):∀e∈o.after,Region.binds .any e=true->e.on<j:=by
 unfold backOk at h
 rw[List.all_eq_true]at h
 have hm:(o,j)∈ops.zipIdx.toList:=by
  rw[Array.toList_zipIdx,List.mk_mem_zipIdx_iff_getElem?]
  simpa using ho
 have h1:=h (o,j) hm
 simp only[Array.all_eq_true']at h1
 intro e he hb
 have:=h1 e he
 simpa [hb] using this
theorem dAny_lex {st:Bool} {ops:Array Oper} (hlin:linR E st ops=true) {r:List D×List Ob}:∀(l:List Oper) (k:Nat) (listed:Array Bool) (a:List D) (S:List Ob),(∀j,l[j]?=ops[k+j]?)->k+l.length=ops.size->listed.size=ops.size->(∀j,j<ops.size->listed.getD j true=decide (j<k))->
  runD E call st ops l a S=some r->dAny (λ_ o a S=>stepD E call st ops o a S) ops r l.length listed a S
 | [],k,listed,a,S,hl,hk,hsz,hlist,h=>by
  simp[runD]at h
  refine⟨?_,h⟩
  rw[List.eq_nil_iff_forall_not_mem]
  intro j hj
  obtain⟨h1,h2,-⟩:=ready_lt hj
  rw[hlist j h1]at h2
  simp at hk h2
  omega
 |o::l,k,listed,a,S,hl,hk,hsz,hlist,h=>by
  obtain⟨ho,hl'⟩:=ops_drop hl
  have hkl:k<ops.size:=by simp at hk;omega
  simp only[linR,Kv]at hlin
  obtain⟨⟨hback,hahead⟩,hwith⟩:=hlin
  unfold runD at h
  split at h
  ·rename_i a1 S1 h1
   have hlf:∀j,j<ops.size->listed.getD j false=decide (j<k):=by
    intro j hj
    have:=hlist j hj
    have hj':j<listed.size:=by omega
    simp only[Uj,Uz hj',Option.getD_some]at this ⊢
    exact this
   have hready:k∈Region.ready .any ops listed:=by
    unfold Region.ready
    rw[List.mem_filter,List.mem_range]
    refine⟨hkl,?_⟩
    rw[hlist k hkl,ho]
    simp only[Vl,decide_false,Bool.not_false,Vm,Option.getD_some,Bool.true_and,Array.all_eq_true']
    intro e he
    cases hb:Region.binds .any e with
    |false=>rfl
    |true=>
     have hlt:=back_spec hback ho e he hb
     rw[hlf e.on (by omega)]
     simp[hlt]
   have hset:∀j,j<ops.size->(listed.setIfInBounds k true).getD j true=decide (j<k+1):=by
    intro j hj
    by_cases e:k=j
    ·subst e
     have:k<listed.size:=by omega
     simp[Uj,this]
    ·have:=hlist j hj
     simp only[Uj,Array.getElem?_setIfInBounds_ne e]at this ⊢
     rw[this]
     apply decide_eq_decide.2
     omega
   have ih:=dAny_lex (by simp only[linR,Kv];exact⟨⟨hback,hahead⟩,hwith⟩) l (k+1) (listed.setIfInBounds k true) a1 S1 hl' (by simp at hk;omega) (by simpa using hsz) hset h
   -- all that is listed: closed, and the first k are there
   have hinit:ClosedL ops listed/\listed.size=ops.size/\∀j,j<k->listed.getD j false=true:=by
    refine⟨λj oj hoj hlj e he hb=>?_,hsz,λj hj=>by rw[hlf j (by omega)];simpa using hj⟩
    have hjl:j<ops.size:=(Array.getElem?_eq_some_iff.1 hoj).1
    rw[hlist j hjl]at hlj
    have hlt:=back_spec hback hoj e he hb
    have:j<k:=by simpa using hlj
    rw[hlf e.on (by omega)]
    simp;omega
   refine dAny_first ho (λlisted=>ClosedL ops listed/\listed.size=ops.size/\∀j,j<k->listed.getD j false=true) (λlisted j hI hj hne=>?_) (λlisted j oj hI hik hj hne hoj a S a1 S1 a2 S2 q1 q2=>?_) _ _ _ _ _ _ hinit hsz hready h1 ih
   ·obtain⟨hc,hz,hp⟩:=hI
    obtain⟨r1,r2,r3⟩:=ready_lt hj
    have mono:∀m,listed.getD m false=true->(listed.setIfInBounds j true).getD m false=true:=by
     intro m hm
     by_cases e:j=m
     ·subst e
      have:j<listed.size:=by omega
      simp[Uj,this]
     ·simp only[Uj,Array.getElem?_setIfInBounds_ne e]at hm ⊢
      exact hm
    refine⟨λm om hom hlm e he hb=>?_,by simpa using hz,λm hm=>mono m (hp m hm)⟩
    by_cases e':j=m
    ·subst e'
     exact mono _ (r3 om hom e he hb)
    ·refine mono _ (hc m om hom ?_ e he hb)
     simp only[Uj,Array.getElem?_setIfInBounds_ne e']at hlm ⊢
     exact hlm
   ·obtain⟨hc,hz,hp⟩:=hI
    obtain⟨r1,r2,r3⟩:=ready_lt hj
    have hkj:k<j:=by
     rcases Nat.lt_trichotomy k j with h |h |h
     ·exact h
     ·exact absurd h.symm hne
     ·have:=hp j h
      have hj':j<listed.size:=by omega
      simp only[Uj,Uz hj',Option.getD_some]at this r2
      rw[this]at r2;cases r2
    have hnb:((Region.before ops).getD j 0).testBit k=false:=by
     cases hb:((Region.before ops).getD j 0).testBit k with
     |false=>rfl
     |true=>
      have:=ahead_listed hahead hz hc hkl j r1 r3 hb
      have hk':k<listed.size:=by omega
      simp only[Uj,Uz hk',Option.getD_some]at this hik
      rw[this]at hik;cases hik
    obtain⟨s1,s2⟩:=lin_spec hwith ho hoj hkj hnb
    exact step_swap s2 s1 q1 q2
  ·cases h
/-! ### Regions by a plan -/
theorem beqS_eq:∀ {x y:List Ob},beqS x y=true->x=y
 | [],[],_=>rfl
 | [],_::_,h=>by simp[beqS]at h
 |_::_,[],h=>by simp[beqS]at h
 |a::l,b::m,h=>by
  simp only[beqS,Kv]at h
  rw[beqOb_eq _ _ h.1,beqS_eq h.2]
theorem slot_inj:∀ {L:List Nat} {i j s:Nat},slotN L i=some s->slotN L j=some s->i=j
 | [],i,j,s,h,_=>by simp[slotN]at h
 |a::l,i,j,s,h,k=>by
  unfold slotN at h k
  split at h
  ·rename_i e
   cases h
   split at k
   ·rename_i e';rw[<-e,e']
   ·obtain⟨z,-,hz⟩:=Ks.1 k;omega
  ·split at k
   ·cases k
    obtain⟨z,-,hz⟩:=Ks.1 h;omega
   ·obtain⟨z,h1,hz⟩:=Ks.1 h
    obtain⟨y,k1,hy⟩:=Ks.1 k
    have:y=z:=by omega
    subst this
    exact slot_inj h1 k1
theorem slot_lt:∀ {L:List Nat} {i s:Nat},slotN L i=some s->s<L.length
 | [],i,s,h=>by simp[slotN]at h
 |a::l,i,s,h=>by
  unfold slotN at h
  split at h
  ·cases h;simp
  ·obtain⟨z,h1,hz⟩:=Ks.1 h
   have:=slot_lt h1
   simp only[Uu];omega
theorem dMade_congr {ev ev':Operand->D} {op:Op} (h:∀x∈op.operands,ev x=ev' x):dMade E ev op=dMade E ev' op:=by
 cases op with
 |box t x=>simp only[Op.operands]at h;simp only[dMade,h x (by simp)]
 |makeSlice t x y=>simp only[Op.operands]at h;simp only[dMade,h x (by simp),h y (by simp)]
 |makeMap t r=>cases r <;> rfl
 |_=>rfl
theorem stepM_eq {ops:Array Oper} {o:Oper} {s:Nat} {a a':List D} {S S':List Ob}:stepM E ops o s a S=some (a',S')↔ ∃d ob,wantD ops a o=some true/\dMade E (evD E a) o.op=some (d,ob)/\S[s]?=some .dead/\a'=putD a o.dst (d s)/\S'=S.set s ob:=by
 unfold stepM
 constructor
 ·intro h
  split at h
  ·rename_i hw
   split at h
   ·rename_i d ob hm hs
    cases h
    exact⟨d,ob,hw,hm,hs,rfl,rfl⟩
   ·cases h
  ·cases h
 ·rintro⟨d,ob,hw,hm,hs,rfl,rfl⟩
  rw[hw]
  dsimp only
  rw[hm,hs]
theorem want_put {ops:Array Oper} {o:Oper} {a:List D} {dst:Option Tmp} {d:D} (h:∀t,dst=some t->t ∉ o.looksAt ops):wantD ops (putD a dst d) o=wantD ops a o:=by
 unfold wantD
 split
 ·rfl
 ·rename_i j want hg
  congr 1
  unfold ylD
  split
  ·rfl
  ·rename_i t ht
   have hne:∀u,dst=some u->u≠t:=by
    intro u hu e
    subst e
    refine h u hu (List.mem_append_right _ ?_)
    rw[hg]
    simp[ht]
   have:(putD a dst d)[t]?=a[t]? :=by
    cases dst with
    |none=>rfl
    |some u=>simp[putD,Kt (hne u rfl)]
   rw[this]
theorem stepM_swap {ops:Array Oper} {x y:Oper} {s:Nat} (hap:x.apart ops y=true) (hok:clO E true x.op=.N∨clO E true x.op=.R) {a a1 a2:List D} {S S1 S2:List Ob} (h1:stepD E call true ops x a S=some (a1,S1)) (h2:stepM E ops y s a1 S1=some (a2,S2)):
  ∃a' S',stepM E ops y s a S=some (a',S')/\stepD E call true ops x a' S'=some (a2,S2):=by
 obtain⟨p1,p2,p3⟩:=Oper.apart_spec hap
 obtain⟨dx,hx,rfl⟩:=stepD_eq.1 h1
 obtain⟨d,ob,hw,hm,hs,rfl,rfl⟩:=stepM_eq.1 h2
 rw[want_put p1]at hw
 rw[dMade_congr (ev':=evD E a) (λz hz=>evD_put λt ht e=>by
  subst e
  exact p1 t ht (List.mem_append_left _ (List.mem_filterMap.2 ⟨.tmp t,by simpa using hz,rfl⟩)))]at hm
 suffices hh:S1=S/\stepV E call true ops x a (S.set s ob)=some (dx,S.set s ob) by
  obtain⟨rfl,hv⟩:=hh
  exact⟨_,_,stepM_eq.2 ⟨d,ob,hw,hm,hs,rfl,rfl⟩,stepD_eq.2 ⟨dx,by rw[stepV_put p3];exact hv,by rw[putD_comm a dx (d s) p2]⟩⟩
 unfold stepV at hx ⊢
 split at hx
 ·cases hx
 ·cases hx;exact⟨rfl,rfl⟩
 ·rcases hok with hok |hok
  ·obtain⟨r,hr⟩:=cl_N (call:=call) (evD E a) (λg=>rfl) hok
   rw[hr]at hx ⊢
   obtain⟨d',hd',e⟩:=Ks.1 hx
   cases e
   exact⟨rfl,by rw[hd'];rfl⟩
  ·obtain⟨r,hr⟩:=cl_RO (call:=call) (evD E a) (λg=>rfl) (.inl hok) S
   have hx':=hx
   rw[hr]at hx
   obtain⟨d',hd',e⟩:=Ks.1 hx
   cases e
   refine⟨rfl,cl_RX (evD E a) hok (λk o ho hk=>?_) hx'⟩
   by_cases e:s=k
   ·subst e;rw[hs]at hk;cases hk;exact absurd rfl ho
   ·rw[Kt e];exact hk
theorem stepW_swap {ops:Array Oper} {L:List Nat} {b i j:Nat} {x y:Oper} (hi:slotN L i=none) (hap:x.apart ops y=true) (hok:okPair (clO E true x.op) (clO E true y.op)=true) {a a1 a2:List D} {S S1 S2:List Ob} (h1:stepW E call ops L b i x a S=some (a1,S1)) (h2:stepW E call ops L b j y a1 S1=some (a2,S2)):
  ∃a' S',stepW E call ops L b j y a S=some (a',S')/\stepW E call ops L b i x a' S'=some (a2,S2):=by
 unfold stepW at h1 h2 ⊢
 rw[hi]at h1 ⊢
 dsimp only at h1 ⊢
 cases hj:slotN L j with
 |none=>
  rw[hj]at h2
  exact step_swap hap hok h1 h2
 |some s=>
  rw[hj]at h2
  dsimp only at h2 ⊢
  refine stepM_swap hap ?_ h1 h2
  obtain⟨d,ob,-,hm,-⟩:=stepM_eq.1 h2
  have hy:clO E true y.op=.A:=by
   unfold dMade at hm
   split at hm <;> first | (rename_i e;rw[e];rfl) |cases hm
  rw[hy]at hok
  cases hx:clO E true x.op <;> rw[hx]at hok <;> simp_all[okPair]
theorem closed_set {ops:Array Oper} {listed:Array Bool} {j:Nat} (hc:ClosedL ops listed) (hz:listed.size=ops.size) (hj:j∈Region.ready .any ops listed):ClosedL ops (listed.setIfInBounds j true):=by
 obtain⟨r1,r2,r3⟩:=ready_lt hj
 have mono:∀m,listed.getD m false=true->(listed.setIfInBounds j true).getD m false=true:=by
  intro m hm
  by_cases e:j=m
  ·subst e
   have:j<listed.size:=by omega
   simp[Uj,this]
  ·simp only[Uj,Array.getElem?_setIfInBounds_ne e]at hm ⊢
   exact hm
 intro m om hom hlm e he hb
 by_cases e':j=m
 ·subst e'
  exact mono _ (r3 om hom e he hb)
 ·refine mono _ (hc m om hom ?_ e he hb)
  simp only[Uj,Array.getElem?_setIfInBounds_ne e']at hlm ⊢
  exact hlm
theorem plan_any {ops:Array Oper} {L:List Nat} {b:Nat} {r:List D×List Ob} (hah:aheadOk ops (Region.before ops)=true):∀(p:Plan) (inB:Bool) (n:Nat) (listed:Array Bool) (a:List D) (S:List Ob),Kg E ops (Region.before ops) L inB n listed p=true->ClosedL ops listed->listed.size=ops.size->Kd E call ops L b p a S=some r->
  (inB=false->dAny (stepW E call ops L b) ops r n listed a S)/\(inB=true->∀i∈p.heads,∃m,n=m+1/\∀o,ops[i]?=some o->∃a' S',stepW E call ops L b i o a S=some (a',S')/\dAny (stepW E call ops L b) ops r m (listed.setIfInBounds i true) a' S')
 | .done,inB,n,listed,a,S,h,hc,hz,hr=>by
  cases inB <;> cases n <;> simp[Kg]at h
  refine⟨λ_=>⟨h,?_⟩,λe=>by cases e⟩
  simpa [Kd] using hr
 | .step i p,inB,0,listed,a,S,h,hc,hz,hr=>by cases inB <;> simp[Kg]at h
 | .step i p,inB,n+1,listed,a,S,h,hc,hz,hr=>by
  unfold Kg at h
  simp only[Kv,List.contains_iff_mem]at h
  obtain⟨⟨hi,hf⟩,hp⟩:=h
  unfold Kd at hr
  split at hr
  case h_2=>cases hr
  rename_i o ho
  split at hr
  case h_2=>cases hr
  rename_i a' S' hst
  have ih:=(plan_any hah p false n _ a' S' hp (closed_set hc hz hi) (by simpa using hz) hr).1 rfl
  refine⟨λe=>?_,λe j hj=>?_⟩
  ·subst e
   simp only[Bool.false_or,Bool.or_eq_true,beq_iff_eq]at hf
   rcases hf with hf |hf
   ·refine⟨λh0=>by rw[h0]at hi;simp at hi,λj hj oj hoj=>?_⟩
    rw[hf,List.mem_singleton]at hj
    subst hj
    rw[ho]at hoj;cases hoj
    exact⟨a',S',hst,ih⟩
   ·unfold freeAt at hf
    simp only[Kv,Option.isNone_iff_eq_none,List.all_eq_true,List.mem_range,Bool.or_eq_true,beq_iff_eq]at hf
    obtain⟨hsl,hfr⟩:=hf
    refine dAny_first ho (λl=>ClosedL ops l/\l.size=ops.size/\∀k,listed.getD k true=true->l.getD k true=true) (λl j hI hj hne=>?_) (λl j oj hI hil hj hne hoj a S a1 S1 a2 S2 q1 q2=>?_) n listed a S a' S' ⟨hc,hz,λk hk=>hk⟩ hz hi hst ih
    ·obtain⟨c1,c2,c3⟩:=hI
     refine⟨closed_set c1 c2 hj,by simpa using c2,λk hk=>?_⟩
     have:=c3 k hk
     by_cases e:j=k
     ·subst e
      obtain⟨r1,r2,-⟩:=ready_lt hj
      rw[r2]at this;cases this
     ·simp only[Uj,Array.getElem?_setIfInBounds_ne e]at this ⊢
      exact this
    ·obtain⟨c1,c2,c3⟩:=hI
     obtain⟨r1,r2,r3⟩:=ready_lt hj
     have hjl:listed.getD j true=false:=by
      cases e:listed.getD j true with
      |false=>rfl
      |true=>have:=c3 j e;rw[r2]at this;cases this
     have hil':=(ready_lt hi).1
     have hnb:((Region.before ops).getD j 0).testBit i=false:=by
      cases hb:((Region.before ops).getD j 0).testBit i with
      |false=>rfl
      |true=>
       have:=ahead_listed hah c2 c1 hil' j r1 r3 hb
       have hk':i<l.size:=by omega
       simp only[Uj,Uz hk',Option.getD_some]at this hil
       rw[this]at hil;cases hil
     have:=hfr j r1
     rw[hjl,hnb,ho,hoj]at this
     simp only[hne,Ui,false_or,Kv]at this
     exact stepW_swap hsl this.2 this.1 q1 q2
  ·simp only[Plan.heads,List.mem_singleton]at hj
   subst hj
   refine⟨n,rfl,λoj hoj=>?_⟩
   rw[ho]at hoj;cases hoj
   exact⟨a',S',hst,ih⟩
 | .both p q,inB,0,listed,a,S,h,hc,hz,hr=>by cases inB <;> simp[Kg]at h
 | .both p q,inB,n+1,listed,a,S,h,hc,hz,hr=>by
  unfold Kg at h
  simp only[Kv]at h
  obtain⟨⟨hf,hp⟩,hq⟩:=h
  unfold Kd at hr
  split at hr
  case h_2=>cases hr
  rename_i a1 S1 a2 S2 h1 h2
  split at hr
  case isFalse=>cases hr
  rename_i he
  cases hr
  simp only[Kv]at he
  have e1:=beqL_eq _ _ he.1
  have e2:=beqS_eq he.2
  subst e1;subst e2
  have ih1:=(plan_any hah p true (n+1) listed a S hp hc hz h1).2 rfl
  have ih2:=(plan_any hah q true (n+1) listed a S hq hc hz h2).2 rfl
  have all:∀i∈(Plan.both p q).heads,∃m,n+1=m+1/\∀o,ops[i]?=some o->∃a' S',stepW E call ops L b i o a S=some (a',S')/\dAny (stepW E call ops L b) ops (a1,S1) m (listed.setIfInBounds i true) a' S':=by
   intro i hi
   rcases List.mem_append.1 hi with hi |hi
   ·exact ih1 i hi
   ·exact ih2 i hi
  refine⟨λe=>?_,λe=>all⟩
  subst e
  simp only[Bool.false_or,Kv,Bool.not_eq_true',List.all_eq_true,List.contains_iff_mem]at hf
  refine⟨λh0=>by rw[h0]at hf;simp at hf,λi hi o ho=>?_⟩
  obtain⟨m,hm,hall⟩:=all i (hf.2 i hi)
  have:m=n:=by omega
  subst this
  exact hall o ho
theorem made_wp {ops:Array Oper} {o:Oper} {s:Nat} {act act':List D} {a:Act} {S S':List Ob} {W:World} {C:Cx} (hs:St E W C S act a) (h:stepM E ops o s act S=some (act',S')) (hR:C.R s=none) {K:Act->World->Prop} {Q:Exit->Act->World->Prop}
  (hK:∀a' W' C',St E W' C' S' act' a'->(∀W0 C0 S0,S0.length<=s->Fr W0 C0 S0 W C S->Fr W0 C0 S0 W' C' S')->(∀k x,C'.R k=some x->C.R k=some x∨k=s)->K a' W'):if Region.wanted o (yielded ops a.tmps)=true then o.wp E.P a W K Q else K (a.put o.dst undef) W:=by
 obtain⟨d,ob,hw,hm,hd,rfl,rfl⟩:=stepM_eq.1 h
 rw[want_spec hs.a ops hw,if_pos rfl]
 have hev:∀x,VR W C (evD E act x) (a.eval x):=λx=>hs.a.eval hs.g x
 have fin:∀ {W':World} {g sz tot:Nat} {T:TypeId} {v:Value},W'.os=W.os->W'.tape=W.tape->W'.output=W.output->W.heap.size<=W'.heap.size->(∀b,b<W.heap.size->W'.heap[b]?=W.heap[b]?)->W.heap.size<=g->g<W'.heap.size->
   ((∀d v,VR W C d v->VR W' (C.add s (g,sz,tot,T)) d v)->ObR W' (C.add s (g,sz,tot,T)) g sz tot T ob)->(VR W' (C.add s (g,sz,tot,T)) (d s) v)->K (a.put o.dst v) W':=by
  intro W' g sz tot T v hos htp hout hsz hkeep hg hg' hob hv
  obtain⟨h1,h2,h3⟩:=hs.sr.pushAt hd hR hos htp hout hsz hkeep hg hg' hob
  refine hK _ W' _ ⟨h1,hs.p,λg cs hg=>h2 _ _ (hs.g g cs hg),AR.put ⟨hs.a.vals.mono h2,hs.a.defers⟩ _ hv⟩ (λW0 C0 S0 hle hf=>?_) (λk x hx=>?_)
  ·refine⟨hos.trans hf.os,htp.trans hf.tape,hout.trans hf.output,Vk hf.size hsz,λb hb hn=>(hkeep b (Nat.lt_of_lt_of_le hb hf.size)).trans (hf.keep b hb hn),λb hb=>?_,λk x hx=>?_,hf.I,hf.P,hf.newI,by rw[Ux];exact hf.len,λk x hx=>?_⟩
   ·rcases h3 b hb with hb |hb
    ·exact hf.live b hb
    ·exact .inr (Vk hf.size hb)
   ·have:=hf.R k x hx
    by_cases e:k=s
    ·rw[e,hR]at this;cases this
    ·simpa [Cx.add,e] using this
   ·by_cases e:k=s
    ·exact .inr (e ▸ hle)
    ·exact hf.newR k x (by simpa [Cx.add,e] using hx)
  ·by_cases e:k=s
   ·exact .inr e
   ·exact .inl (by simpa [Cx.add,e] using hx)
 have var:∀ {t:TypeId} {x:D} {v:Value},VR W C x v->x.cells.all D.one=true->d s=.loc s 0 0->ob=.row x.cells.length [x.cells]->∃g,(newVar t v).run E.P W=.ok g (W.alloc (.cells v.cells t))/\K (a.put o.dst (.pointer (some g))) (W.alloc (.cells v.cells t)):=by
  intro t x v hv h1 hds hob
  have hne:x≠.undef:=by rintro rfl;simp[D.cells,D.one]at h1
  have hcl:=hv.cells hne
  refine⟨⟨W.heap.size,0,none⟩,by simp[newVar,newRow],?_⟩
  refine fin (W':=W.alloc (.cells v.cells t)) (g:=W.heap.size) (sz:=x.cells.length) (tot:=x.cells.length) (T:=t) rfl rfl rfl (by simp) (λb hb=>Below.heap_alloc W _ b hb) (Uk _) (by simp) (λhup=>?_) ?_
  ·subst hob
   refine⟨rfl,by simp,λi e he=>?_,v.cells,heap_alloc_new W _,by have:=hcl.1;simp at this;exact this.symm,λi j e c he hc=>?_⟩
   ·have:i=0:=by have:=(Kr.1 he).1;simp at this;exact this
    subst this
    cases he;rfl
   ·have:i=0:=by have:=(Kr.1 he).1;simp at this;exact this
    subst this
    cases he
    obtain⟨u,hu,hr⟩:=hcl.get hc
    rw[Ul]at hu
    exact⟨u,by simpa using hu,hup _ _ hr,all_one h1 c (Kx hc)⟩
  ·rw[hds]
   have:=VR.loc (W:=W.alloc (.cells v.cells t)) (C:=C.add s (W.heap.size,x.cells.length,x.cells.length,t)) (k:=s) (i:=0) (o:=0) (Cx.add_same _ _ _)
   simpa using this
 unfold dMade at hm
 split at hm
 ·rename_i t hop
  split at hm
  ·rename_i z hz
   split at hm
   ·rename_i hz1
    cases hm
    obtain⟨zv,hzr,-,hzv⟩:=run_zero hz
    obtain⟨g,hr,hk⟩:=var (t:=t) (Ju (W:=W) (C:=C) hzv) hz1 rfl rfl
    refine Ys (v:=.pointer (some g)) ?_ hk
    simp only[execOp,hop,Instr.alloc,Sem.run_bind,hzr,Result.andThen_ok,hr,Sem.run_pure]
   ·cases hm
  ·cases hm
 ·rename_i t x hop
  split at hm
  ·rename_i h1
   cases hm
   obtain⟨g,hr,hk⟩:=var (t:=t) (hev x) h1 rfl rfl
   refine Ys (v:=.pointer (some g)) ?_ hk
   simp only[execOp,hop,Instr.box,Sem.run_bind,Result.andThen_ok,hr,Sem.run_pure]
  ·cases hm
 ·rename_i t hop
  split at hm
  ·rename_i kt et hu
   cases hm
   refine Ys (v:=.map (some W.heap.size)) (W':=W.alloc (.map #[] 0)) (by simp[execOp,hop,Instr.makeMap,Sem.run_bind,Result.andThen_ok]) ?_
   exact fin (W':=W.alloc (.map #[] 0)) (g:=W.heap.size) (sz:=0) (tot:=0) (T:=0) rfl rfl rfl (by simp) (λb hb=>Below.heap_alloc W _ b hb) (Uk _) (by simp) (λhm=>⟨#[],0,[],heap_alloc_new W _,List.Perm.refl _,⟨List.nodup_nil,λe he=>by simp at he⟩,rfl,λp hp=>by simp at hp,List.Pairwise.nil,λi p e hp=>by simp at hp⟩) (.map (Cx.add_same _ _ _))
  ·cases hm
 ·rename_i t l c hop
  have hl:=hev l
  have hc:=hev c
  generalize hvl:a.eval l=vl at hl
  generalize hvc:a.eval c=vc at hc
  split at hm
  ·rename_i len cap e1 e2
   rw[e1]at hl;rw[e2]at hc
   cases hl;cases hc
   split at hm
   ·rename_i dd ob' rest hmk
    cases hm
    unfold dMakeSlice at hmk
    split at hmk
    ·rename_i e he
     have hu:E.P.underlying t=some (.slice e):=by
      unfold Ki at he;split at he
      ·cases he;assumption
      ·cases he
     split at hmk
     ·rename_i n z hsz hz
      obtain⟨zv,hzr,⟨i,hi,hiz⟩,hzv⟩:=run_zero hz
      have hzc:=(Ju (W:=W) (C:=C) hzv).cells (fromVal_def hzv)
      split at hmk
      ·rename_i hcond
       obtain⟨c1,c2,c3,c4,c5,c6⟩:=hcond
       cases hmk
       have his:i.size=n+1:=by
        obtain⟨i',hi',h'⟩:=info_of_size hsz
        rw[hi]at hi';cases hi';exact h'
       have hby:Kl E.P e=i.bytes:=by simp[Kl,hi]
       rw[hby]at c3
       have hrun:=run_make (P:=E.P) W t e i zv hu hi hiz .i64 .i64 len cap c1 c2 (by omega) c4
       have hlz:zv.cells.size=n+1:=by have:=hzc.1;simp at this;omega
       refine Ys (v:=.slice (some { block:=W.heap.size,off:=0 }) len.toNat cap.toNat) (W':=W.alloc (.cells (madeCells zv.cells (cap.toNat*i.size)) e)) (by simp only[execOp,hop,hvl,hvc,Sem.run_bind,hrun,Result.andThen_ok,Sem.run_pure]) ?_
       refine fin (W':=W.alloc (.cells (madeCells zv.cells (cap.toNat*i.size)) e)) (g:=W.heap.size) (sz:=n+1) (tot:=cap.toNat*(n+1)) (T:=e) rfl rfl rfl (by simp) (λb hb=>Below.heap_alloc W _ b hb) (Uk _) (by simp) (λhm=>?_) ?_
       ·refine⟨rfl,by simp,λi e he=>?_,_,heap_alloc_new W _,by rw[size_madeCells,his],λk j e' c he hc=>?_⟩
        ·rw[List.getElem?_replicate]at he
         split at he
         ·cases he;exact c5
         ·cases he
        ·rw[List.getElem?_replicate]at he
         split at he
         ·rename_i hk
          cases he
          obtain⟨u,hu',hr⟩:=hzc.get hc
          have hj:j<n+1:=by rw[<-c5];exact (Kr.1 hc).1
          refine⟨u,?_,hm _ _ hr,all_one c6 c (Kx hc)⟩
          rw[Ul]at hu'
          have hlt:k*(n+1)+j<cap.toNat*i.size:=by rw[his];exact Jt hk hj
          have hmod:(k*(n+1)+j) % zv.cells.size=j:=by rw[hlz,Nat.mul_comm,Nat.mul_add_mod,Nat.mod_eq_of_lt hj]
          have hjs:j<zv.cells.size:=by omega
          have hmd:(madeCells zv.cells (cap.toNat*i.size))[k*(n+1)+j]?=some (zv.cells[j]!):=by simp[madeCells,hlt,hmod]
          rw[hmd,<-hu']
          simp[hjs]
         ·cases he
       ·have:=VR.os (W:=W.alloc (.cells (madeCells zv.cells (cap.toNat*i.size)) e)) (C:=C.add s (W.heap.size,n+1,cap.toNat*(n+1),e)) (k:=s) (i:=0) (len:=len.toNat) (x:=false) (cap:=cap.toNat) (Cx.add_same _ _ _) (by omega) (λe=>by cases e) (λ_=>by simp) (by simp)
        simpa using this
      ·cases hmk
     ·cases hmk
    ·cases hmk
   ·cases hm
  ·cases hm
 ·cases hm
def FreeS (L:List Nat) (b:Nat) (listed:Array Bool) (C:Cx) (S:List Ob):Prop:=b+L.length<=S.length/\∀i s,slotN L i=some s->listed.getD i true=false->C.R (b+s)=none
theorem dAnyW_sound (hE:EnvOk E) (hC:CallOk E call) {ops:Array Oper} {L:List Nat} {b:Nat} {act':List D} {S':List Ob} {Q:Exit->Act->World->Prop} {W0:World} {C0:Cx} {S0:List Ob} (hb:S0.length=b) (hQ:∀a' W' C',St E W' C' S' act' a'->Fr W0 C0 S0 W' C' S'->Q .normal a' W'):
  ∀ {n:Nat} {listed:Array Bool} {act:List D} {a:Act} {S:List Ob} {W:World} {C:Cx},St E W C S act a->Fr W0 C0 S0 W C S->FreeS L b listed C S->listed.size=ops.size->dAny (stepW E call ops L b) ops (act',S') n listed act S->wpAny E.P .any ops Q n listed a W
 |0,listed,act,a,S,W,C,hs,hf,hj,hz,h=>by
  obtain⟨h1,h2⟩:=h
  cases h2
  exact⟨h1,hQ a W C hs hf⟩
 |n+1,listed,act,a,S,W,C,hs,hf,hj,hz,h=>by
  obtain⟨h1,h2⟩:=h
  refine⟨λh0=>by cases h1 h0;exact hQ a W C hs hf,λi hi=>?_⟩
  obtain⟨hlt,hun,-⟩:=ready_lt hi
  have ho:ops[i]?=some ops[i]:=Uz hlt
  obtain⟨a1,S1,hst,hd⟩:=h2 i hi _ ho
  have un:∀j,(listed.setIfInBounds i true).getD j true=false->listed.getD j true=false/\j≠i:=by
   intro j hj
   by_cases e:i=j
   ·subst e
    have:i<listed.size:=by omega
    simp[Uj,this]at hj
   ·simp only[Uj,Array.getElem?_setIfInBounds_ne e]at hj ⊢
    exact⟨hj,λh=>e h.symm⟩
  unfold wpOp
  rw[ho]
  dsimp only
  unfold stepW at hst
  cases hsl:slotN L i with
  |none=>
   rw[hsl]at hst
   have:=step_wp hE hC hs hst (K:=wpAny E.P .any ops Q n (listed.setIfInBounds i true)) (Q:=Q) (λa' W' C' hs' hf'=>dAnyW_sound hE hC hb hQ hs' (hf.trans hf') ⟨Vk hj.1 hf'.len,λj s hjs hl=>by
    have h0:=hj.2 j s hjs (un j hl).1
    cases e:C'.R (b+s) with
    |none=>rfl
    |some x=>
     rcases hf'.newR _ x e with h |h
     ·rw[h0]at h;cases h
     ·have:=slot_lt hjs
      have:=hj.1
      omega⟩ (by simpa using hz) hd)
   split
   ·rename_i hw;rw[if_pos hw]at this;exact .inl this
   ·rename_i hw;rw[if_neg hw]at this;exact this
  |some s=>
   rw[hsl]at hst
   dsimp only at hst
   have hlen:S1.length=S.length:=by
    obtain⟨d,ob,-,-,-,-,rfl⟩:=stepM_eq.1 hst
    simp
   have:=made_wp hs hst (hj.2 i s hsl hun) (K:=wpAny E.P .any ops Q n (listed.setIfInBounds i true)) (Q:=Q) (λa' W' C' hs' hf' hr'=>dAnyW_sound hE hC hb hQ hs' (hf' _ _ _ (by omega) hf) ⟨by rw[hlen];exact hj.1,λj z hjs hl=>by
    have h0:=hj.2 j z hjs (un j hl).1
    cases e:C'.R (b+z) with
    |none=>rfl
    |some x=>
     rcases hr' _ x e with h |h
     ·rw[h0]at h;cases h
     ·have:z=s:=by omega
      subst this
      exact absurd (slot_inj hjs hsl) (un j hl).2⟩ (by simpa using hz) hd)
   split
   ·rename_i hw;rw[if_pos hw]at this;exact .inl this
   ·rename_i hw;rw[if_neg hw]at this;exact this
theorem SR.lay {W:World} {C:Cx} {S:List Ob} (h:SR W C S) (m:Nat):SR W C (S++List.replicate m .dead)/\Fr W C S W C (S++List.replicate m .dead):=by
 have look:∀ {i:Nat} {o:Ob},(S++List.replicate m Ob.dead)[i]?=some o->o≠.dead->S[i]?=some o:=by
  intro i o hi ho
  by_cases e:i<S.length
  ·rwa [Ut e]at hi
  ·rw[Vh (by omega),List.getElem?_replicate]at hi
   split at hi
   ·cases hi;exact absurd rfl ho
   ·cases hi
 refine⟨⟨λi o hi ho=>h.ob i o (look hi ho) ho,λi x hx=>by rw[Ku];have:=h.fresh i x hx;omega,λi i' o o' x x' hi ho hi' ho'=>h.inj i i' o o' x x' (look hi ho) ho (look hi' ho') ho',h.imm⟩,⟨rfl,rfl,rfl,Uk _,λ_ _ _=>rfl,λb hb=>?_,λ_ _ h=>h,λ_ h=>h,rfl,λ_ h=>.inl h,by simp,λ_ _ h=>.inl h⟩⟩
 obtain⟨i,o,s,t,T,h1,h2,h3⟩:=hb
 exact .inl ⟨i,o,s,t,T,look h1 h2,h2,h3⟩
theorem St.drew {W:World} {C:Cx} {S:List Ob} {act:List D} {a:Act} (hs:St E W C S act a):St E { W with drawn:=W.drawn+1 } C S act a/\Fr W C S { W with drawn:=W.drawn+1 } C S:=by
 have hm:∀d v,VR W C d v->VR { W with drawn:=W.drawn+1 } C d v:=λd v hv=>VR.mono (W:=W) (W':={ W with drawn:=W.drawn+1 }) (C:=C) (C':=C) (λg hg=>⟨hg,rfl⟩) (λ_ _ h=>h) hv
 exact⟨⟨⟨λk ob hk ho=>by
  obtain⟨g,sz,tot,T,h1,h2,h3,h4⟩:=hs.sr.ob k ob hk ho
  exact⟨g,sz,tot,T,h1,h2.mono rfl rfl hm,h3,h4⟩,hs.sr.fresh,hs.sr.inj,hs.sr.imm⟩,hs.p,λg cs hg=>hm _ _ (hs.g g cs hg),⟨hs.a.vals.mono hm,hs.a.defers⟩⟩,⟨rfl,rfl,rfl,Uk _,λ_ _ _=>rfl,λ_ h=>.inl h,λ_ _ h=>h,λ_ h=>h,rfl,λ_ h=>.inl h,Uk _,λ_ _ h=>.inl h⟩⟩
theorem region_plan (hE:EnvOk E) (hC:CallOk E call) {id:Nat} {ops:Array Oper} {L:List Nat} {p:Plan} (hp:planR E ops L p=true) {Q:Exit->Act->World->Prop} {act act':List D} {a:Act} {S S':List Ob} {W:World} {C:Cx} (hs:St E W C S act a)
  (h:Kd E call ops L S.length p act (S++List.replicate L.length .dead)=some (act',S')) (hQ:∀a' W' C',St E W' C' S' act' a'->Fr W C S W' C' S'->Q .normal a' W'):(Code.region id ops true).wp E.P Q a W:=by
 refine wp_region_any hE.mixed ?_
 obtain⟨h1,h2⟩:=hs.drew
 obtain⟨l1,l2⟩:=h1.sr.lay L.length
 unfold planR at hp
 rw[Kv]at hp
 have hrep:∀j,(Array.replicate ops.size false).getD j false=false:=λj=>by
  simp only[Uj,Array.getElem?_replicate]
  split <;> rfl
 have hcl:ClosedL ops (Array.replicate ops.size false):=λk o ho hk=>by
  have hlt:=(Array.getElem?_eq_some_iff.1 ho).1
  simp[Uj,hlt]at hk
 have hany:=(plan_any (call:=call) hp.1 p false ops.size _ act _ hp.2 hcl (by simp) h).1 rfl
 exact dAnyW_sound hE hC (b:=S.length) rfl hQ ⟨l1,h1.p,h1.g,h1.a⟩ (h2.trans l2) ⟨by simp,λi s _ _=>by
  cases e:C.R (S.length+s) with
  |none=>rfl
  |some x=>have:=hs.sr.fresh _ x e;omega⟩ (by simp) hany
theorem region_wp (hE:EnvOk E) (hC:CallOk E call) {id:Nat} {ops:Array Oper} {draw:Bool} (hlin:draw=true->linR E (strictR E ops) ops=true) {Q:Exit->Act->World->Prop} {act act':List D} {a:Act} {S S':List Ob} {W:World} {C:Cx} (hs:St E W C S act a)
  (h:runD E call (draw && strictR E ops) ops ops.toList act S=some (act',S')) (hQ:∀a' W' C',St E W' C' S' act' a'->Fr W C S W' C' S'->Q .normal a' W'):(Code.region id ops draw).wp E.P Q a W:=by
 cases draw with
 |false=>
  refine wp_region ?_
  have:=run_wp hE hC (Q:=Q) (l:=ops.toList) (k:=0) (λj=>by simp) hs h hQ
  rw[List.range_eq_range']
  simpa using this
 |true=>
  have hl:=hlin rfl
  rw[Bool.true_and]at h
  refine wp_region_any hE.mixed ?_
  have hdrew:St E { W with drawn:=W.drawn+1 } C S act a:=by
   have hm:∀d v,VR W C d v->VR { W with drawn:=W.drawn+1 } C d v:=λd v hv=>VR.mono (W:=W) (W':={ W with drawn:=W.drawn+1 }) (C:=C) (C':=C) (λg hg=>⟨hg,rfl⟩) (λ_ _ h=>h) hv
   exact⟨⟨λk ob hk ho=>by
    obtain⟨g,sz,tot,T,h1,h2,h3,h4⟩:=hs.sr.ob k ob hk ho
    exact⟨g,sz,tot,T,h1,h2.mono rfl rfl hm,h3,h4⟩,hs.sr.fresh,hs.sr.inj,hs.sr.imm⟩,hs.p,λg cs hg=>hm _ _ (hs.g g cs hg),⟨hs.a.vals.mono hm,hs.a.defers⟩⟩
  have hfr:Fr W C S { W with drawn:=W.drawn+1 } C S:=⟨rfl,rfl,rfl,Uk _,λ_ _ _=>rfl,λ_ h=>.inl h,λ_ _ h=>h,λ_ h=>h,rfl,λ_ h=>.inl h,Uk _,λ_ _ h=>.inl h⟩
  have hlex:=dAny_lex (call:=call) hl ops.toList 0 (Array.replicate ops.size false) act S (λj=>by simp) (by simp) (by simp) (λj hj=>by simp[Uj,hj]) h
  rw[Array.length_toList]at hlex
  exact dAny_sound hE hC hQ hdrew hfr hlex
end
end Go.Proofs.YtaklebjoenophaaGreat.Dm
