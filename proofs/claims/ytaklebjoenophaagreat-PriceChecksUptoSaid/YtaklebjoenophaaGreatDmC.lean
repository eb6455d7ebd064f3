/-
  One operation of the machine, whichever it is, is what the model does: calls too.
-/
import Derived.Test.YtaklebjoenophaaGreatDmP
import Derived.Test.YtaklebjoenophaaGreatDmK
set_option maxHeartbeats 64000000
set_option maxRecDepth 100000
set_option linter.unusedSimpArgs false
set_option linter.unusedVariables false
namespace Go.Proofs.YtaklebjoenophaaGreat.Dm
open Go Go.RowKit
mutual
theorem beqD_eq:∀(x y:D),beqD x y=true->x=y
 | .undef,y,h=>by cases y <;> simp_all[beqD]
 | .bool a,y,h=>by cases y <;> simp_all[beqD]
 | .int k a,y,h=>by cases y <;> simp_all[beqD]
 | .str a,y,h=>by cases y <;> simp_all[beqD]
 | .nilp,y,h=>by cases y <;> simp_all[beqD]
 | .ref a o,y,h=>by
  cases y <;> simp only[beqD,Kv,Up,reduceCtorEq,Ui]at h
  rw[h.1,beqL_eq _ _ h.2]
 | .loc k i o,y,h=>by cases y <;> simp_all[beqD]
 | .nils,y,h=>by cases y <;> simp_all[beqD]
 | .sl z a x,y,h=>by
  cases y <;> simp only[beqD,Kv,Up,reduceCtorEq,Ui,beq_iff_eq]at h
  rw[h.1.1,h.1.2,beqLL_eq _ _ h.2]
 | .os k i n x,y,h=>by cases y <;> simp_all[beqD]
 | .osc _ _ _ _,y,h=>by cases y <;> simp_all[beqD]
 | .nilm,y,h=>by cases y <;> simp_all[beqD]
 | .it0,y,h=>by cases y <;> simp_all[beqD]
 | .itE _,y,h=>by cases y <;> simp_all[beqD]
 | .map k,y,h=>by cases y <;> simp_all[beqD]
 | .nilf,y,h=>by cases y <;> simp_all[beqD]
 | .func f a b,y,h=>by
  cases y <;> simp only[beqD,Kv,Up,reduceCtorEq,Ui]at h
  rw[h.1.1,beqL_eq _ _ h.1.2,beqL_eq _ _ h.2]
 | .nili,y,h=>by cases y <;> simp_all[beqD]
 | .iface t a,y,h=>by
  cases y <;> simp only[beqD,Kv,Up,reduceCtorEq,Ui]at h
  rw[h.1,beqD_eq _ _ h.2]
 | .agg a,y,h=>by
  cases y <;> simp only[beqD,reduceCtorEq,Ui]at h
  rw[beqL_eq _ _ h]
 | .tup a,y,h=>by
  cases y <;> simp only[beqD,reduceCtorEq,Ui]at h
  rw[beqL_eq _ _ h]
theorem beqL_eq:∀(x y:List D),beqL x y=true->x=y
 | [],y,h=>by cases y <;> simp_all[beqL]
 |a::l,y,h=>by
  cases y <;> simp only[beqL,Kv,reduceCtorEq,Ui]at h
  rw[beqD_eq _ _ h.1,beqL_eq _ _ h.2]
theorem beqLL_eq:∀(x y:List (List D)),beqLL x y=true->x=y
 | [],y,h=>by cases y <;> simp_all[beqLL]
 |a::l,y,h=>by
  cases y <;> simp only[beqLL,Kv,reduceCtorEq,Ui]at h
  rw[beqL_eq _ _ h.1,beqLL_eq _ _ h.2]
end
theorem beqP_eq:∀(x y:List (D×D)),beqP x y=true->x=y
 | [],y,h=>by cases y <;> simp_all[beqP]
 | (a,b)::l,[],h=>by simp[beqP]at h
 | (a,b)::l,(c,d)::m,h=>by
  simp only[beqP,Kv]at h
  rw[beqD_eq _ _ h.1.1,beqD_eq _ _ h.1.2,beqP_eq _ _ h.2]
theorem beqOb_eq (x y:Ob) (h:beqOb x y=true):x=y:=by
 cases x <;> cases y <;> simp only[beqOb,Kv,Up,reduceCtorEq,Ui]at h
 ·rfl
 ·rw[h.1,beqLL_eq _ _ h.2]
 ·rw[h.1,beqP_eq _ _ h.2]
theorem keptS_get:∀ {S T:List Ob},keptS S T=true->∀(k:Nat) (ob:Ob),S[k]?=some ob->T[k]?=some ob
 | [],_,_,k,ob,hk=>by simp at hk
 |a::l,[],h,k,ob,hk=>by simp[keptS]at h
 |a::l,b::m,h,k,ob,hk=>by
  simp only[keptS,Kv]at h
  cases k with
  |zero=>have:a=ob:=by simpa using hk
         subst this;simp[beqOb_eq _ _ h.1]
  |succ k=>simpa using keptS_get h.2 k ob (by simpa using hk)
structure EnvOk (E:Env):Prop where
 mixed:E.P.follows .mixedOrders=true
 names:∀(f:Nat) (fn:Func),E.P.funcs[f]?=some fn->fn.name≠ "runtime.NumGoroutine"
 keys:∀kt,E.keys kt=true->Maps.Keyed E.P kt
 lin:∀(f:Nat) (fn:Func) (c:Code),E.P.funcs[f]?=some fn->fn.body=some c->E.mode f≠.no->linC E c=true
 globals:∀g cs,E.G g=some cs->Yp cs=true
 exts:∀g p,E.ext g=some p->∃fn e,E.P.funcs[g]?=some fn/\(fn.name == "runtime.NumGoroutine")=false/\fn.body.isNone=true/\Extern.findNext fn=none/\Extern.find fn=some e/\
  ∀S args d S' W C (vs:List Value),p S args=some (d,S')->SR W C S->C.P=E.P->VRs W C args vs->∃u W' C',(e vs.toArray).run E.P W=.ok u W'/\VR W' C' d u/\SR W' C' S'/\Fr W C S W' C' S'
 prims:∀f p,E.prim f=some p->∀args S d S',p args S=some (d,S')->∀W C (vargs:Array Value),SR W C S->C.P=E.P->GR W C E.G->VRs W C args vargs.toList->
  (∃fn,E.P.funcs[f]?=some fn/\fn.body.isSome=true)/\
  Calls E.P f vargs W λe W'=>∃v C',e=.returned v/\VR W' C' d v/\SR W' C' S'/\Fr W C S W' C' S'
def CallOk (E:Env) (call:Call):Prop:=
 ∀f args S d S',call f args S=some (d,S')->∀W C (vargs:Array Value),SR W C S->C.P=E.P->GR W C E.G->VRs W C args vargs.toList->
  (∃fn,E.P.funcs[f]?=some fn/\fn.body.isSome=true)/\
  Calls E.P f vargs W λe W'=>∃v C',e=.returned v/\VR W' C' d v/\SR W' C' S'/\Fr W C S W' C' S'
theorem GR.pure {W:World} {C C':Cx} {E:Env} (hE:EnvOk E) (h:GR W C E.G) (hI:∀g,C.I g->C'.I g):GR W C' E.G:=λg cs hg=>(h g cs hg).toPure hI (by simpa [D.pure] using hE.globals g cs hg)
theorem callD_ok {E:Env} {call:Call} (hE:EnvOk E) (hC:CallOk E call) {st:Bool} {S S':List Ob} {f:FuncId} {args:List D} {d:D} (h:Yi E call st S f args=some (d,S')) {W:World} {C:Cx} {vargs:Array Value} (hs:SR W C S) (hP:C.P=E.P) (hG:GR W C E.G) (hv:VRs W C args vargs.toList):
  (∃fn,E.P.funcs[f]?=some fn/\fn.body.isSome=true)/\
  Calls E.P f vargs W λe W'=>∃v C',e=.returned v/\VR W' C' d v/\SR W' C' S'/\Fr W C S W' C' S':=by
 have pureCase:∀ {d0:D} {T:List Ob},Yp args=true->call f args []=some (d0,T)->(Xp T 40 d0).map (·,S)=some (d,S')->
   (∃fn,E.P.funcs[f]?=some fn/\fn.body.isSome=true)/\Calls E.P f vargs W λe W'=>∃v C',e=.returned v/\VR W' C' d v/\SR W' C' S'/\Fr W C S W' C' S':=by
  intro d0 T hp hcall hfr
  obtain⟨d',hfz,e⟩:=Ks.1 hfr
  cases e
  let C0:Cx:=⟨C.P,λ_=>none,C.I⟩
  have hs0:SR W C0 []:=⟨λk ob hk=>(by simp at hk),λk x hx=>(by cases hx),λk k' ob ob' x x' hk=>(by simp at hk),hs.imm⟩
  have hv0:VRs W C0 args vargs.toList:=⟨hv.1,λj a u ha hu=>VR.toPure (C:=C) (C':=C0) (λg hg=>hg) (hv.2 j a u ha hu) (pureL_get hp j a ha)⟩
  obtain⟨hb,hcl⟩:=hC f args [] d0 T hcall W C0 vargs hs0 hP (hG.pure hE (λg hg=>hg)) hv0
  refine⟨hb,hcl.mono ?_⟩
  rintro e W' ⟨v,C1,rfl,hr,hs1,hf⟩
  have hI1:∀b,(C1.froze T C.R).I b->C.I b∨W.heap.size<=b:=by
   intro b hb
   rcases hb with hb |hb
   ·exact hf.newI b hb
   ·rcases hf.live b hb with hl |hl
    ·obtain⟨k,ob,sz,tot,T',h1,-⟩:=hl;simp at h1
    ·exact .inr hl
  have hkeep:∀b,b<W.heap.size->W'.heap[b]?=W.heap[b]? :=λb hb=>hf.keep b hb (λhl=>by obtain⟨k,ob,sz,tot,T',h1,-⟩:=hl;simp at h1)
  have hm:∀a u,VR W C a u->VR W' (C1.froze T C.R) a u:=λa u hau=>VR.mono (C:=C) (C':=C1.froze T C.R) (λg hg=>⟨.inl (hf.I g hg),hkeep g (hs.imm g hg)⟩) (λk x hx=>hx) hau
  refine⟨v,C1.froze T C.R,rfl,freeze_vr hs1 _ hfz hr,⟨λk ob hk ho=>?_,hs.fresh,hs.inj,λb hb=>?_⟩,⟨hf.os,hf.tape,hf.output,hf.size,λb hb _=>hkeep b hb,λb hb=>.inl hb,λk x hx=>hx,λg hg=>.inl (hf.I g hg),hf.P,hI1,Uk _,λ_ _ h=>.inl h⟩⟩
  ·obtain⟨g,sz,tot,T',h1,h2,h3,h4⟩:=hs.ob k ob hk ho
   exact⟨g,sz,tot,T',h1,h2.mono hf.P (hkeep g h4) hm,λhb=>(hI1 g hb).elim h3 (λh5=>by omega),Nat.lt_of_lt_of_le h4 hf.size⟩
  ·rcases hb with hb |hb
   ·exact hs1.imm b hb
   ·exact hs1.live_lt hb
 unfold Yi at h
 split at h
 ·cases h
 ·exact hC f args S d S' h W C vargs hs hP hG hv
 ·split at h
  ·rename_i hp
   split at h
   ·rename_i d0 T hcall;exact pureCase hp hcall h
   ·cases h
  ·split at h
   ·cases h
   ·exact hC f args S d S' h W C vargs hs hP hG hv
 ·split at h
  ·rename_i hp
   split at h
   ·rename_i d0 T hcall;exact pureCase hp hcall h
   ·cases h
  ·split at h
   ·rename_i d0 T hcall
    split at h
    ·rename_i hk
     cases h
     simp only[Kv]at hk
     obtain⟨hb,hcl⟩:=hC f args _ _ T hcall W C vargs hs hP hG hv
     refine⟨hb,hcl.mono ?_⟩
     rintro e W' ⟨v,C1,rfl,hr,hs1,hf⟩
     have hget:=keptS_get hk.2
     refine⟨v,⟨C1.P,C.R,C1.I⟩,rfl,VR.toPure (C:=C1) (C':=⟨C1.P,C.R,C1.I⟩) (λg hg=>hg) hr hk.1,⟨λk ob hko ho=>?_,hs.fresh,hs.inj,hs1.imm⟩,⟨hf.os,hf.tape,hf.output,hf.size,hf.keep,λb hb=>.inl hb,λk x hx=>hx,hf.I,hf.P,hf.newI,Uk _,λ_ _ h=>.inl h⟩⟩
     obtain⟨g,sz,tot,T',h1,h2,h3,h4⟩:=hs.ob k ob hko ho
     obtain⟨g',sz',tot',T'',q1,q2,q3,q4⟩:=hs1.ob k ob (hget k ob hko) ho
     have e1:=hf.R k _ h1
     rw[q1]at e1
     cases e1
     refine⟨g,sz,tot,T',h1,?_,q3,q4⟩
     cases ob with
     |dead=>trivial
     |row s es=>
      obtain⟨a1,a2,a3,vs0,a4,a5,a6⟩:=h2
      obtain⟨b1,b2,b3,vs1,b4,b5,b6⟩:=q2
      refine⟨b1,b2,b3,vs1,b4,b5,λi j e c he hc=>?_⟩
      obtain⟨u0,-,hu0,-⟩:=a6 i j e c he hc
      obtain⟨u1,hu1,hr1,ho1⟩:=b6 i j e c he hc
      exact⟨u1,hu1,hr1.toOld hf.R hu0,ho1⟩
     |map kt l=>
      obtain⟨es0,cl0,m0,a1,a1',-,a2,a3,a4,a5⟩:=h2
      obtain⟨es1,cl1,m1,b1,b1',b1'',b2,b3,b4,b5⟩:=q2
      refine⟨es1,cl1,m1,b1,b1',b1'',b2,b3,b4,λi p e hp he=>?_⟩
      obtain⟨i0,hp0⟩:=Vv.1 (a1'.mem_iff.2 (b1'.mem_iff.1 (Kx hp)))
      have hil:i0<es0.size:=by rw[<-a2];exact (Kr.1 hp0).1
      have h0:=a5 i0 p _ hp0 (Uz hil)
      have h1':=b5 i p e hp he
      exact⟨h1'.1.toOld hf.R h0.1,h1'.2.toOld hf.R h0.2⟩
    ·cases h
   ·cases h
 ·split at h
  ·rename_i d0 T hcall
   split at h
   ·cases h
    exact hC f args S _ _ hcall W C vargs hs hP hG hv
   ·cases h
  ·cases h
section
variable {P : Program} {o : Oper} {a : Act} {W : World} {next : Act -> World -> Prop} {Q : Exit -> Act -> World -> Prop}
theorem Ys {v:Value} {W':World} (h:(execOp a.eval o).run P W=.ok (.value v) W') (hn:next (a.put o.dst v) W'):o.wp P a W next Q:=by
 unfold Oper.wp;rw[h];exact hn
theorem wp_skip' {W':World} (h:(execOp a.eval o).run P W=.ok .skip W') (hn:next (a.put o.dst undef) W'):o.wp P a W next Q:=by
 unfold Oper.wp;rw[h];exact hn
end
theorem undef_vr {W:World} {C:Cx}:VR W C (.tup []) undef:=VR.tup_of (VRs.nil (W:=W) (C:=C))
theorem VRs.map {W:World} {C:Cx} {f:Operand->D} {g:Operand->Value} (h:∀x,VR W C (f x) (g x)) (l:List Operand):VRs W C (l.map f) (l.map g):=by
 induction l with
 |nil=>exact VRs.nil
 |cons a l ih=>exact VRs.cons (h a) ih
theorem OV.map {W:World} {C:Cx} {f:Operand->D} {g:Operand->Value} (h:∀x,VR W C (f x) (g x)) (o:Option Operand):OV W C (o.map f) (o.map g):=by
 cases o with
 |none=>trivial
 |some x=>exact h x
theorem op_wp {E:Env} {call:Call} (hE:EnvOk E) (hC:CallOk E call) {st:Bool} {act:List D} {a:Act} {S S':List Ob} {W:World} {C:Cx} {o:Oper} {d:D} (hs:SR W C S) (hP:C.P=E.P) (hG:GR W C E.G) (hA:AR W C act a)
  (h:dOp E call st (evD E act) S o.op=some (d,S')) {next:Act->World->Prop} {Q:Exit->Act->World->Prop} (hn:∀v W' C',VR W' C' d v->SR W' C' S'->Fr W C S W' C' S'->next (a.put o.dst v) W'):o.wp E.P a W next Q:=by
 have hev:∀x,VR W C (evD E act x) (a.eval x):=λx=>hA.eval hG x
 have same:∀ {v:Value},S'=S->VR W C d v->next (a.put o.dst v) W:=λe hv=>hn _ W C hv (e ▸ hs) (e ▸ Fr.refl _ _ _)
 unfold dOp at h
 split at h
 case h_1 x hop=>cases h;exact Ys (by simp only[execOp,hop,Sem.run_pure]) (same rfl (hev x))
 case h_2 x hop=>cases h;exact Ys (by simp only[execOp,hop,Sem.run_pure]) (same rfl (hev x))
 case h_3 c x y hop=>
  split at h
  ·rename_i b hb
   cases h
   have:=hev c
   rw[hb]at this
   generalize hvc:a.eval c=vc at this
   cases this
   refine Ys (v:=if b then a.eval x else a.eval y) ?_ (same rfl ?_)
   ·simp only[execOp,hop,hvc,asBool,Sem.run_bind,Sem.run_pure,Result.andThen_ok]
   ·cases b
    ·exact hev y
    ·exact hev x
  ·cases h
 case h_4 t hop=>
  split at h
  ·rename_i z hz
   split at h
   ·rename_i hz1
    cases h
    obtain⟨zv,hzr,-,hzv⟩:=run_zero hz
    obtain⟨g,W',C',hr,h1,h2,h3⟩:=run_newVar (P:=E.P) (t:=t) hs (Ju (W:=W) (C:=C) hzv) hz1
    refine Ys (v:=.pointer (some g)) ?_ (hn _ W' C' h1 h2 h3)
    simp only[execOp,hop,Instr.alloc,Sem.run_bind,hzr,Result.andThen_ok,hr,Sem.run_pure]
   ·cases h
  ·cases h
 case h_5 t x hop=>
  split at h
  ·rename_i h1
   cases h
   obtain⟨g,W',C',hr,h1,h2,h3⟩:=run_newVar (P:=E.P) (t:=t) hs (hev x) h1
   refine Ys (v:=.pointer (some g)) ?_ (hn _ W' C' h1 h2 h3)
   simp only[execOp,hop,Instr.box,Sem.run_bind,Result.andThen_ok,hr,Sem.run_pure]
  ·cases h
 case h_6 t parts hop=>
  obtain⟨d',hd,e⟩:=Ks.1 h
  cases e
  obtain⟨u,hu,hr⟩:=run_dBuild (P:=E.P) (qs:=parts.map λp=>(p.1,a.eval p.2)) hd (by rw[Array.toList_map];exact PRs.map hev)
  refine Ys (v:=u) ?_ (same rfl hr)
  simp only[execOp,hop,Sem.run_bind,hu,Result.andThen_ok,Sem.run_pure]
 case h_7 t len parts hop=>
  obtain⟨d',hd,e⟩:=Ks.1 h
  cases e
  obtain⟨u,W',hu,hr,h2,h3⟩:=run_dBuildSlice (P:=E.P) hs (qs:=parts.map λp=>(p.1,a.eval p.2)) hd (by rw[Array.toList_map];exact PRs.map hev)
  refine Ys (v:=u) ?_ (hn _ W' _ hr h2 h3)
  simp only[execOp,hop,Sem.run_bind,hu,Result.andThen_ok,Sem.run_pure]
 case h_8 t x hop=>
  obtain⟨d',hd,e⟩:=Ks.1 h
  cases e
  obtain⟨u,hu,hr⟩:=run_dLoad hs (hev x) hd
  exact Ys (v:=u) (by simp only[execOp,hop,Sem.run_bind,hu,Result.andThen_ok,Sem.run_pure]) (same rfl hr)
 case h_9 t x v hop=>
  obtain⟨T,hd,e⟩:=Ks.1 h
  cases e
  obtain⟨W',hu,h2,h3⟩:=run_dStore hs (hev x) (hev v) hd
  exact wp_skip' (by simp only[execOp,hop,Sem.run_bind,hu,Result.andThen_ok,Sem.run_pure]) (hn _ W' C undef_vr h2 h3)
 case h_10 x hop=>
  have hx:=hev x
  generalize hvx:a.eval x=vx at hx
  split at h
  ·rename_i cs o' hb
   cases h
   rw[hb]at hx
   cases hx with
   |ref vs hg hc hv=>exact Ys (by simp only[execOp,hop,hvx,Sem.run_pure]) (same rfl (.ref vs hg hc hv))
  ·rename_i k i o' hb
   cases h
   rw[hb]at hx
   cases hx with
   |loc hr=>exact Ys (by simp only[execOp,hop,hvx,Sem.run_pure]) (same rfl (.loc hr))
  ·rename_i f x' y' hb
   cases h
   rw[hb]at hx
   cases hx with
   |func h1 h2 h3 h4=>exact Ys (by simp only[execOp,hop,hvx,Sem.run_pure]) (same rfl (.func h1 h2 h3 h4))
  ·cases h
 case h_11 op t x y _ hop=>
  obtain⟨d',hd,e⟩:=Ks.1 h
  cases e
  obtain⟨h1,u,hu,hr⟩:=run_dBin (P:=E.P) x y hd (hev x) (hev y)
  exact Ys (v:=u) (by simp only[execOp,hop,Sem.run_bind,h1,hu,Result.andThen_ok,Sem.run_pure]) (same rfl hr)
 case h_12 op t x hop=>
  obtain⟨d',hd,e⟩:=Ks.1 h
  cases e
  obtain⟨u,hu,hr⟩:=run_dUn (P:=E.P) hd (hev x)
  exact Ys (v:=u) (by simp only[execOp,hop,Sem.run_bind,hu,Result.andThen_ok,Sem.run_pure]) (same rfl hr)
 case h_13 s t x hop=>
  obtain⟨d',hd,e⟩:=Ks.1 h
  cases e
  obtain⟨u,hu,hr⟩:=run_dConv (P:=E.P) hd (hev x)
  exact Ys (v:=u) (by simp only[execOp,hop,Sem.run_bind,hu,Result.andThen_ok,Sem.run_pure]) (same rfl hr)
 case h_14 f x y hop=>
  cases h
  have h1:=VRs.map hev x.toList
  have h2:=VRs.map hev y.toList
  refine Ys (v:=.func (.func f) (x.map a.eval) (y.map a.eval)) ?_ (same rfl (.func (by simp) (by simp) (λj d v hd hv=>h1.2 j d v hd (by simpa using hv)) (λj d v hd hv=>h2.2 j d v hd (by simpa using hv))))
  simp only[execOp,hop,Instr.makeFunc,Sem.run_bind,Sem.run_pure,Result.andThen_ok]
 case h_15 t hop=>
  split at h
  ·rename_i kt et hu
   cases h
   obtain⟨u,W',C',hr,h1,h2,h3⟩:=run_makeMap0 (P:=E.P) hs t kt
   exact Ys (v:=u) (by simp only[execOp,hop,Option.map_none,Sem.run_bind,hr,Result.andThen_ok,Sem.run_pure]) (hn _ W' C' h1 h2 h3)
  ·cases h
 case h_16 t l c hop=>
  have hl:=hev l
  have hc:=hev c
  generalize hvl:a.eval l=vl at hl
  generalize hvc:a.eval c=vc at hc
  split at h
  ·rename_i l' c' e1 e2
   rw[e1]at hl;rw[e2]at hc
   cases hl;cases hc
   obtain⟨u,W',C',hr,h1,h2,h3⟩:=run_dMakeSlice (P:=E.P) hs h
   exact Ys (v:=u) (by simp only[execOp,hop,hvl,hvc,Sem.run_bind,hr,Result.andThen_ok,Sem.run_pure]) (hn _ W' C' h1 h2 h3)
  ·cases h
 case h_17 t x lo hi mx hop=>
  obtain⟨d',hd,e⟩:=Ks.1 h
  cases e
  obtain⟨u,hu,hr⟩:=run_dSlice (P:=E.P) hs (hev x) (OV.map hev lo) (OV.map hev hi) (OV.map hev mx) hd
  exact Ys (v:=u) (by simp only[execOp,hop,Sem.run_bind,hu,Result.andThen_ok,Sem.run_pure]) (same rfl hr)
 case h_18 t x f hop=>
  obtain⟨d',hd,e⟩:=Ks.1 h
  cases e
  obtain⟨u,hu,hr⟩:=run_dFieldAddr (P:=E.P) (hev x) hd
  exact Ys (v:=u) (by simp only[execOp,hop,Sem.run_bind,hu,Result.andThen_ok,Sem.run_pure]) (same rfl hr)
 case h_19 t x f hop=>
  obtain⟨d',hd,e⟩:=Ks.1 h
  cases e
  obtain⟨u,hu,hr⟩:=run_dField (P:=E.P) (hev x) hd
  exact Ys (v:=u) (by simp only[execOp,hop,Sem.run_bind,hu,Result.andThen_ok,Sem.run_pure]) (same rfl hr)
 case h_20 t x i hop=>
  have hi:=hev i
  generalize hvi:a.eval i=vi at hi
  split at h
  ·rename_i k n e1
   rw[e1]at hi
   cases hi
   obtain⟨d',hd,e⟩:=Ks.1 h
   cases e
   obtain⟨u,hu,hr⟩:=run_dIndexAddr (P:=E.P) (k:=k) hs (hev x) hd
   exact Ys (v:=u) (by simp only[execOp,hop,hvi,Sem.run_bind,hu,Result.andThen_ok,Sem.run_pure]) (same rfl hr)
  ·cases h
 case h_21 t x i hop=>
  have hi:=hev i
  generalize hvi:a.eval i=vi at hi
  split at h
  ·rename_i k n e1
   rw[e1]at hi
   cases hi
   obtain⟨d',hd,e⟩:=Ks.1 h
   cases e
   obtain⟨u,hu,hr⟩:=run_dIndex (P:=E.P) (k:=k) (hev x) hd
   exact Ys (v:=u) (by simp only[execOp,hop,hvi,Sem.run_bind,hu,Result.andThen_ok,Sem.run_pure]) (same rfl hr)
  ·cases h
 case h_22 t x k ok hop=>
  split at h
  ·rename_i kt et hu hx
   split at h
   ·rename_i z hz
    split at h
    ·rename_i hk
     cases h
     simp only[Kv]at hk
     obtain⟨u,hr,hv⟩:=run_lookup_nil (P:=E.P) hu (hE.keys kt hk.2) hz (hx ▸ hev x) (hev k) hk.1 ok
     exact Ys (v:=u) (by simp only[execOp,hop,Sem.run_bind,hr,Result.andThen_ok,Sem.run_pure]) (same rfl hv)
    ·cases h
   ·cases h
  ·rename_i kt et r hu hx
   split at h
   ·rename_i kt' l z hr hz
    split at h
    ·rename_i hk
     cases h
     obtain⟨rfl,hk1,hk2⟩:=hk
     obtain⟨u,hru,hv⟩:=run_lookup (P:=E.P) hs hP hu (hE.keys _ hk2) hz hr (hx ▸ hev x) (hev k) hk1 ok
     exact Ys (v:=u) (by simp only[execOp,hop,Sem.run_bind,hru,Result.andThen_ok,Sem.run_pure]) (same rfl hv)
    ·cases h
   ·cases h
  ·cases h
 case h_23 t m k v hop=>
  split at h
  ·rename_i kt et r hu hx
   split at h
   ·rename_i kt' l hr
    split at h
    ·rename_i hk
     cases h
     obtain⟨rfl,hk1,hk2⟩:=hk
     obtain⟨W',hru,h2,h3⟩:=run_mapUpdate' (P:=E.P) hs hP hu (hE.keys _ hk2) hr (hx ▸ hev m) (hev k) hk1 (hev v)
     exact wp_skip' (by simp only[execOp,hop,Sem.run_bind,hru,Result.andThen_ok,Sem.run_pure]) (hn _ W' C undef_vr h2 h3)
    ·cases h
   ·cases h
  ·cases h
 case h_24 t m k v hop=>
  split at h
  ·rename_i kt et r hu hx
   split at h
   ·rename_i kt' l hr
    split at h
    ·rename_i hk
     cases h
     obtain⟨rfl,hk1,hk2⟩:=hk
     obtain⟨W',hru,h2,h3⟩:=run_mapUpdate' (P:=E.P) hs hP hu (hE.keys _ hk2) hr (hx ▸ hev m) (hev k) hk1 (hev v)
     exact wp_skip' (by simp only[execOp,hop,Sem.run_bind,hru,Result.andThen_ok,Sem.run_pure]) (hn _ W' C undef_vr h2 h3)
    ·cases h
   ·cases h
  ·cases h
 case h_25 t i hop=>
  split at h
  ·rename_i ds hds
   obtain⟨d',hd,e⟩:=Ks.1 h
   cases e
   obtain⟨vs,hvs,hrs⟩:=(hds ▸ hev t).of_tup
   obtain⟨u,hu,hr⟩:=hrs.get hd
   rw[Ul]at hu
   exact Ys (v:=u) (by simp only[execOp,hop,Instr.extract,hvs,hu,Sem.run_bind,Result.andThen_ok,Sem.run_pure]) (same rfl hr)
  ·cases h
 case h_26 t x hop=>
  split at h
  ·cases h
  ·rename_i ds hne hu
   cases h
   refine Ys (v:=.iface t (a.eval x)) ?_ (same rfl (.iface (hev x)))
   have:(Instr.makeInterface t (a.eval x)).run E.P W=.ok (.iface t (a.eval x)) W:=by
    simp only[Instr.makeInterface,Sem.run_bind,run_underlying hu,Result.andThen_ok]
    rfl
   simp only[execOp,hop,Sem.run_bind,this,Result.andThen_ok,Sem.run_pure]
  ·cases h
 case h_27 b args ts hop=>
  have hargs:=VRs.map hev args.toList
  have hex:∀ {r:Sem Value} {u:Value} {W':World},builtin b ts o.type (args.map fun | .const _=>true |_=>false) (args.map a.eval)=(do pure (.value (<-r)):Sem Next)->r.run E.P W=.ok u W'->(execOp a.eval o).run E.P W=.ok (.value u) W':=by
   intro r u W' hb hr
   have e1:(execOp a.eval o).run E.P W=(builtin b ts o.type (args.map fun | .const _=>true |_=>false) (args.map a.eval)).run E.P W:=by
    simp only[execOp,hop,resolve,invoke,Sem.run_bind,Sem.run_pure,Result.andThen_ok]
    rfl
   rw[e1,hb]
   simp only[Sem.run_bind,hr,Result.andThen_ok,Sem.run_pure]
  unfold dBuiltin at h
  split at h
  ·rename_i t tl x xl e1 e2
   obtain⟨d',hd,e⟩:=Ks.1 h
   cases e
   rw[e2]at hargs
   obtain⟨v,hv,hxv⟩:=hargs.get (j:=0) rfl
   have hts:ts[0]?=some t:=by rw[<-Ul,e1];rfl
   obtain⟨u,hu,hr⟩:=run_dLen (P:=E.P) (ty:=o.type) hs hts (args:=args.map a.eval) (by rw[<-Ul,Array.toList_map];exact hv) hxv hd
   exact Ys (hex rfl hu) (same rfl hr)
  ·rename_i t u s x e1 e2
   rw[e2]at hargs
   obtain⟨vs,hvs,hsv⟩:=hargs.get (j:=0) rfl
   obtain⟨vx,hvx,hxv⟩:=hargs.get (j:=1) rfl
   have hta:ts=#[t,u]:=by apply Array.ext';rw[e1]
   have haa:args.map a.eval=#[vs,vx]:=by
    have hl:=hargs.1
    apply Array.ext'
    rw[Array.toList_map]
    match hm:args.toList.map a.eval,hl,hvs,hvx with
    | [p,q],_,h1,h2=>simp at h1 h2;rw[h1,h2]
    | [],hl,_,_=>simp at hl
    | [_],hl,_,_=>simp at hl
    |_::_::_::_,hl,_,_=>simp at hl
   split at h
   ·obtain⟨r,W',C',hr,h1,h2,h3⟩:=run_dAppend (P:=E.P) (ty:=o.type) hs hsv hxv h
    exact Ys (hex rfl (by rw[hta,haa];exact hr)) (hn _ W' C' h1 h2 h3)
   ·obtain⟨r,W',C',hr,h1,h2,h3⟩:=run_dAppendMake (P:=E.P) (ty:=o.type) hs hsv hxv h
    exact Ys (hex rfl (by rw[hta,haa];exact hr)) (hn _ W' C' h1 h2 h3)
  ·rename_i t tl dd s e1 e2
   rw[e2]at hargs
   obtain⟨vd,hvd,hdv⟩:=hargs.get (j:=0) rfl
   obtain⟨vs,hvs,hsv⟩:=hargs.get (j:=1) rfl
   have hts:ts[0]?=some t:=by rw[<-Ul,e1];rfl
   have haa:args.map a.eval=#[vd,vs]:=by
    have hl:=hargs.1
    apply Array.ext'
    rw[Array.toList_map]
    match hm:args.toList.map a.eval,hl,hvd,hvs with
    | [p,q],_,h1,h2=>simp at h1 h2;rw[h1,h2]
    | [],hl,_,_=>simp at hl
    | [_],hl,_,_=>simp at hl
    |_::_::_::_,hl,_,_=>simp at hl
   obtain⟨r,W',hr,h1,h2,h3⟩:=run_dCopyA (P:=E.P) (ty:=o.type) hs hts hdv hsv h
   exact Ys (hex rfl (by rw[haa];exact hr)) (hn _ W' C h1 h2 h3)
  ·rename_i x xl e2
   obtain⟨d',hd,e⟩:=Ks.1 h
   cases e
   rw[e2]at hargs
   obtain⟨vx,vl,hvl,hx,hl⟩:∃vx vl,args.toList.map a.eval=vx::vl/\VR W C x vx/\VRs W C xl vl:=by
    match hm:args.toList.map a.eval,hargs with
    |v::vl,h=>exact⟨v,vl,rfl,h.head,h.tail⟩
    | [],h=>have:=h.1;simp at this
   obtain⟨u,hu,hr⟩:=run_dMins (P:=E.P) hd hx hl
   refine Ys (hex rfl ?_) (same rfl hr)
   simp only[Builtin.min_,Array.toList_map,hvl]
   exact hu
  ·rename_i x xl e2
   obtain⟨d',hd,e⟩:=Ks.1 h
   cases e
   rw[e2]at hargs
   obtain⟨vx,vl,hvl,hx,hl⟩:∃vx vl,args.toList.map a.eval=vx::vl/\VR W C x vx/\VRs W C xl vl:=by
    match hm:args.toList.map a.eval,hargs with
    |v::vl,h=>exact⟨v,vl,rfl,h.head,h.tail⟩
    | [],h=>have:=h.1;simp at this
   obtain⟨u,hu,hr⟩:=run_dMins (P:=E.P) hd hx hl
   refine Ys (hex rfl ?_) (same rfl hr)
   simp only[Builtin.max_,Array.toList_map,hvl]
   exact hu
  ·rename_i t tl m k e1 e2
   split at h
   ·rename_i kt et r hu
    split at h
    ·rename_i kt' l hr
     split at h
     ·rename_i hk
      cases h
      obtain⟨rfl,hk1,hk2⟩:=hk
      rw[e2]at hargs
      obtain⟨vd,hvd,hdv⟩:=hargs.get (j:=0) rfl
      obtain⟨vs,hvs,hsv⟩:=hargs.get (j:=1) rfl
      have hts:ts[0]?=some t:=by rw[<-Ul,e1];rfl
      have haa:args.map a.eval=#[vd,vs]:=by
       have hl:=hargs.1
       apply Array.ext'
       rw[Array.toList_map]
       match hm:args.toList.map a.eval,hl,hvd,hvs with
       | [p,q],_,h1,h2=>simp at h1 h2;rw[h1,h2]
       | [],hl,_,_=>simp at hl
       | [_],hl,_,_=>simp at hl
       |_::_::_::_,hl,_,_=>simp at hl
      obtain⟨W',hru,h2,h3⟩:=run_delete' (P:=E.P) (ty:=o.type) hs hP hts hu (hE.keys _ hk2) hr hdv hsv hk1
      exact Ys (hex rfl (by rw[haa];exact hru)) (hn _ W' C undef_vr h2 h3)
     ·cases h
    ·cases h
   ·cases h
  ·rename_i t tl x xl e1 e2
   obtain⟨d',hd,e⟩:=Ks.1 h
   cases e
   rw[e2]at hargs
   obtain⟨v,hv,hxv⟩:=hargs.get (j:=0) rfl
   have hts:ts[0]?=some t:=by rw[<-Ul,e1];rfl
   obtain⟨u,hu,hr⟩:=run_dCap (P:=E.P) (ty:=o.type) hts (args:=args.map a.eval) (by rw[<-Ul,Array.toList_map];exact hv) hxv hd
   exact Ys (hex rfl hu) (same rfl hr)
  ·rename_i t tl x e1 e2
   obtain⟨T,hd,e⟩:=Ks.1 h
   cases e
   rw[e2]at hargs
   obtain⟨vx,hvx,hxv⟩:=hargs.get (j:=0) rfl
   have hts:ts[0]?=some t:=by rw[<-Ul,e1];rfl
   have haa:args.map a.eval=#[vx]:=by
    have hl:=hargs.1
    apply Array.ext'
    rw[Array.toList_map]
    match hm:args.toList.map a.eval,hl,hvx with
    | [p],_,h1=>simp at h1;rw[h1]
    | [],hl,_=>simp at hl
    |_::_::_,hl,_=>simp at hl
   obtain⟨W',hr,h1,h2⟩:=run_dClear (P:=E.P) (ty:=o.type) hs hts hxv hd
   exact Ys (hex rfl (by rw[haa];exact hr)) (hn _ W' C undef_vr h1 h2)
  ·cases h
 case h_28 g args tys hop=>
  have hargs:VRs W C (args.toList.map (evD E act)) ((#[]++args.map a.eval)++ #[]:Array Value).toList:=by
   rw[Array.toList_append,Array.toList_append,Array.toList_map]
   simpa using VRs.map hev args.toList
  split at h
  ·rename_i t hov
   obtain⟨fn,e,hfn,hname,hbn,hnx,hfd,hrun⟩:=hE.exts g t hov
   obtain⟨u,W',C',hu,hr,hs',hf'⟩:=hrun S _ d S' W C _ h hs hP (VRs.map hev args.toList)
   refine Ys (v:=u) ?_ (hn _ W' C' hr hs' hf')
   have hvf:a.eval (.func g)=.func (.func g) #[] #[]:=rfl
   have hargs':(#[]++args.map a.eval)++ #[]=(args.toList.map a.eval).toArray:=by apply Array.ext';simp
   simp only[execOp,hop,resolve,hvf,Deferred.ofValue,invoke,Sem.run_bind,Sem.run_pure,Result.andThen_ok]
   rw[run_callFunc_extern hfn hname hbn hnx hfd,hargs',hu]
   rfl
  obtain⟨⟨fn,hfn,hbody⟩,hcl⟩:=callD_ok hE hC h hs hP hG hargs
  have hrun:(execOp a.eval o).run E.P W=.ok (.enter g ((#[]++args.map a.eval)++ #[])) W:=by
   have hnone:fn.body.isNone=false:=by cases hb:fn.body <;> simp[hb]at hbody ⊢
   have hvf:a.eval (.func g)=.func (.func g) #[] #[]:=rfl
   simp only[execOp,hop,resolve,hvf,Deferred.ofValue,invoke,Sem.run_bind,Sem.run_pure,Result.andThen_ok,callFunc,run_program,hfn]
   rw[if_neg (by simpa using hE.names g fn hfn),if_neg (by simp[hnone])]
   rfl
  unfold Oper.wp
  rw[hrun,Oper.upon_enter]
  refine hcl.mono ?_
  rintro e W' ⟨v,C',rfl,h1,h2,h3⟩
  exact hn v W' C' h1 h2 h3
 case h_29 f args tys _ hop=>
  split at h
  ·rename_i g first cap hf
   split at h
   ·cases h
   have hfv:=hf ▸ hev f
   generalize hvf:a.eval f=vf at hfv
   cases hfv with
   |func hx hy hvx hvy=>
    rename_i vx vy
    have hargs:VRs W C (first++args.toList.map (evD E act)++cap) ((vx++args.map a.eval)++vy).toList:=by
     rw[Array.toList_append,Array.toList_append,Array.toList_map]
     have q1:VRs W C first vx.toList:=⟨by simpa using hx,λj d v hd hv=>hvx j d v hd (by simpa using hv)⟩
     have q2:VRs W C cap vy.toList:=⟨by simpa using hy,λj d v hd hv=>hvy j d v hd (by simpa using hv)⟩
     exact VRs.append (VRs.append q1 (VRs.map hev args.toList)) q2
    obtain⟨⟨fn,hfn,hbody⟩,hcl⟩:=callD_ok hE hC h hs hP hG hargs
    have hrun:(execOp a.eval o).run E.P W=.ok (.enter g ((vx++args.map a.eval)++vy)) W:=by
     have hnone:fn.body.isNone=false:=by cases hb:fn.body <;> simp[hb]at hbody ⊢
     simp only[execOp,hop,resolve,hvf,Deferred.ofValue,invoke,Sem.run_bind,Sem.run_pure,Result.andThen_ok,callFunc,run_program,hfn]
     rw[if_neg (by simpa using hE.names g fn hfn),if_neg (by simp[hnone])]
     rfl
    unfold Oper.wp
    rw[hrun,Oper.upon_enter]
    refine hcl.mono ?_
    rintro e W' ⟨v,C',rfl,h1,h2,h3⟩
    exact hn v W' C' h1 h2 h3
  ·cases h
 case h_30 t x hop=>
  split at h
  ·rename_i hu hx
   cases h
   have hxv:=hx ▸ hev x
   cases hv:a.eval x with
   |map b=>
    rw[hv]at hxv
    cases hxv
    obtain⟨u,W',C',h0,h1,h2,h3⟩:=run_range0 (P:=E.P) hs hu
    exact Ys (v:=u) (by simp only[execOp,hop,hv,Sem.run_bind,h0,Result.andThen_ok,Sem.run_pure]) (hn _ W' C' h1 h2 h3)
   |_=>rw[hv]at hxv;cases hxv
  ·rename_i r hu hx
   split at h
   ·rename_i hr
    cases h
    obtain⟨u,W',C',h0,h1,h2,h3⟩:=run_rangeE (P:=E.P) hs hu hr (hx ▸ hev x)
    exact Ys (v:=u) (by simp only[execOp,hop,Sem.run_bind,h0,Result.andThen_ok,Sem.run_pure]) (hn _ W' C' h1 h2 h3)
   ·cases h
  ·cases h
 case h_31 x hop=>
  have hv2:VR W C (.tup [.bool false]) (.tuple #[.bool false]):=VR.tup_of (VRs.cons (.bool _) VRs.nil)
  split at h
  ·rename_i hx
   cases h
   have h0:=run_next0 (P:=E.P) (ty:=o.type) (hx ▸ hev x)
   exact Ys (by simp only[execOp,hop,Sem.run_bind,h0,Result.andThen_ok,Sem.run_pure]) (same rfl hv2)
  ·rename_i r hx
   split at h
   ·rename_i hr
    cases h
    have h0:=run_nextE (P:=E.P) (ty:=o.type) hs hr (hx ▸ hev x)
    exact Ys (by simp only[execOp,hop,Sem.run_bind,h0,Result.andThen_ok,Sem.run_pure]) (same rfl hv2)
   ·cases h
  ·cases h
 case h_32 x xt as ok hop=>
  split at h
  ·rename_i t d0 hi hx
   split at h
   ·rename_i ht
    subst ht
    have hxv:=hx ▸ hev x
    obtain⟨v,hv,hvr⟩:∃v,a.eval x=.iface t v/\VR W C d0 v:=by
     generalize a.eval x=q at hxv
     cases hxv with
     |iface h=>exact⟨_,rfl,h⟩
    have hru:(Instr.typeAssert (a.eval x) xt t ok).run E.P W=.ok (if ok then .tuple #[v,.bool true] else v) W:=by
     unfold isIface at hi
     obtain⟨dd,hdd,hni⟩:=Ks.1 hi
     rw[hv]
     unfold Instr.typeAssert
     simp only[Sem.run_bind,run_underlying hdd,Result.andThen_ok]
     cases dd <;> first | (simp at hni;done) |simp
    cases h
    refine Ys (v:=if ok=true then .tuple #[v,.bool true] else v) (by simp only[execOp,hop,Sem.run_bind,hru,Result.andThen_ok,Sem.run_pure]) (same rfl ?_)
    cases ok
    ·exact hvr
    ·exact VR.tup_of (VRs.cons hvr (VRs.cons (.bool _) VRs.nil))
   ·cases h
  ·cases h
 case h_33=>cases h
end Go.Proofs.YtaklebjoenophaaGreat.Dm
