/-
  The machine's runs of code and its calls are what the model does: what the machine hands back, the model's call hands back.
  Plans of great regions, checked on tables of numbers.
  The machine of XDm at this seat's program: lists of functions by mode, plans.
-/
import Derived.Test.YtaklebjoenophaaGreatDmG
import Derived.Scope
import Derived.Test.YtaklebjoenophaaGreatProg
import Derived.KernelRfl
import Derived.DeepKeys4
set_option linter.unusedSimpArgs false
set_option linter.unusedVariables false
namespace Go.Proofs.YtaklebjoenophaaGreat.Dm
open Go Go.RowKit
theorem wp_loop_ix {P:Program} {c:Code} {Q:Exit->Act->World->Prop} (I:Nat->Act->World->Prop) (round:∀n a w,I n a w->c.wp P (Exit.then (λa' w'=>∃m,m<n/\I m a' w') Q) a w) {n:Nat} {a:Act} {w:World} (h0:I n a w):(Code.loop c).wp P Q a w:=by
 intro b k cs
 have key:∀n a w,I n a w->∃e a' w',Q e a' w'/\Arrives P (lone (b.at a (.code c:: .inLoop c::k)) cs w) b k cs e a' w':=by
  intro n
  induction n using Nat.strongRecOn with
  |_ n ih=>
   intro a w hI
   obtain⟨e,a₁,w₁,hq,harr⟩:=round n a w hI b (.inLoop c::k) cs
   cases e with
   |normal=>
    obtain⟨m,hlt,hI₁⟩:=hq
    obtain⟨e₂,a₂,w₂,hq₂,harr₂⟩:=ih m hlt a₁ w₁ hI₁
    exact⟨e₂,a₂,w₂,hq₂,.of_steps (Steps.trans harr (.one step_inLoop)) harr₂⟩
   |exit id=>exact⟨_,a₁,w₁,hq,.pass (x:=.inLoop c) rfl (λ_ _=>.inl (by simp)) harr⟩
   |goto l=>exact⟨_,a₁,w₁,hq,.pass (x:=.inLoop c) rfl (λ_ _=>.inl (by simp)) harr⟩
   |ret=>exact⟨_,a₁,w₁,hq,.pass (x:=.inLoop c) rfl (λ_ _=>.inl (by simp)) harr⟩
   |panic ch=>exact⟨_,a₁,w₁,hq,.pass (x:=.inLoop c) rfl (λ_ _=>.inl (by simp)) harr⟩
   |outgrown=>exact⟨_,a₁,w₁,hq,.pass (x:=.inLoop c) rfl (λ_ _=>.inl (by simp)) harr⟩
 obtain⟨e,a',w',hq,harr⟩:=key n a w h0
 exact⟨e,a',w',hq,.of_steps (.one step_loop) harr⟩
def exitOf:DX->Exit
 | .normal=>.normal
 | .exit id=>.exit id
 | .ret=>.ret
theorem code_wp {E:Env} {call:Call} (hE:EnvOk E) (hC:CallOk E call) {n:Nat}:∀(c:Code),linC E c=true->∀ {act act':List D} {a:Act} {S S':List Ob} {W:World} {C:Cx} {e:DX},St E W C S act a->Yr E call n c act S=some (e,act',S')->
  ∀ {Q:Exit->Act->World->Prop},(∀a' W' C',St E W' C' S' act' a'->Fr W C S W' C' S'->Q (exitOf e) a' W')->c.wp E.P Q a W:=by
 intro c
 induction c with
 |skip=>
  intro _ act act' a S S' W C e hs h Q hQ
  simp only[Yr,Uw,Prod.mk.injEq]at h
  obtain⟨rfl,rfl,rfl⟩:=h
  exact wp_skip (hQ a W C hs (Fr.refl _ _ _))
 |region id ops draw=>
  intro hl act act' a S S' W C e hs h Q hQ
  simp only[Yr]at h
  unfold linC at hl
  have plain:(draw=true->linR E (strictR E ops) ops=true)->((match runD E call (draw && strictR E ops) ops ops.toList act S with
    |some (a',S')=>some (DX.normal,a',S')
    |none=>none):Out)=some (e,act',S')->(Code.region id ops draw).wp E.P Q a W:=by
   intro hl h
   split at h
   ·rename_i a1 S1 h1
    simp only[Uw,Prod.mk.injEq]at h
    obtain⟨rfl,rfl,rfl⟩:=h
    exact region_wp hE hC hl hs h1 hQ
   ·cases h
  cases draw with
  |false=>exact plain (λe=>by cases e) h
  |true=>
   simp only[Bool.not_true,Bool.false_or]at hl
   simp only[if_true]at h
   split at h
   ·rename_i hpl
    rw[hpl]at hl
    exact plain (λ_=>hl) h
   ·rename_i L p hpl
    rw[hpl]at hl
    dsimp only at hl
    split at h
    ·rename_i a1 S1 h1
     simp only[Uw,Prod.mk.injEq]at h
     obtain⟨rfl,rfl,rfl⟩:=h
     exact region_plan hE hC hl hs h1 hQ
    ·cases h
 |seq x y ihx ihy=>
  intro hl act act' a S S' W C e hs h Q hQ
  simp only[linC,Kv]at hl
  simp only[Yr]at h
  refine wp_seq ?_
  cases hx:Yr E call n x act S with
  |none=>rw[hx]at h;cases h
  |some r=>
   obtain⟨ex,a1,S1⟩:=r
   rw[hx]at h
   refine ihx hl.1 hs hx (λa2 W2 C2 hs2 hf2=>?_)
   cases ex with
   |normal=>exact ihy hl.2 hs2 h (λa3 W3 C3 hs3 hf3=>hQ a3 W3 C3 hs3 (hf2.trans hf3))
   |exit id=>
    simp only[Uw,Prod.mk.injEq]at h
    obtain⟨rfl,rfl,rfl⟩:=h
    exact hQ a2 W2 C2 hs2 hf2
   |ret=>
    simp only[Uw,Prod.mk.injEq]at h
    obtain⟨rfl,rfl,rfl⟩:=h
    exact hQ a2 W2 C2 hs2 hf2
 |cond c x y ihx ihy=>
  intro hl act act' a S S' W C e hs h Q hQ
  simp only[linC,Kv]at hl
  simp only[Yr]at h
  have hev:=hs.a.eval (E:=E) hs.g c
  generalize hv:a.eval c=v at hev
  split at h
  ·rename_i hc
   rw[hc]at hev;cases hev
   exact wp_cond_true hv (ihx hl.1 hs h hQ)
  ·rename_i hc
   rw[hc]at hev;cases hev
   exact wp_cond_false hv (ihy hl.2 hs h hQ)
  ·cases h
 |block id c ih=>
  intro hl act act' a S S' W C e hs h Q hQ
  simp only[linC]at hl
  simp only[Yr]at h
  refine wp_block ?_
  cases hx:Yr E call n c act S with
  |none=>rw[hx]at h;cases h
  |some r=>
   obtain⟨ex,a1,S1⟩:=r
   rw[hx]at h
   refine ih hl hs hx (λa2 W2 C2 hs2 hf2=>?_)
   cases ex with
   |normal=>
    simp only[Uw,Prod.mk.injEq]at h
    obtain⟨rfl,rfl,rfl⟩:=h
    exact hQ a2 W2 C2 hs2 hf2
   |exit j=>
    simp only at h
    show Exit.inBlock id Q (.exit j) a2 W2
    unfold Exit.inBlock
    split at h
    ·rename_i hj
     simp only[Uw,Prod.mk.injEq]at h
     obtain⟨rfl,rfl,rfl⟩:=h
     dsimp only
     rw[if_pos hj]
     exact hQ a2 W2 C2 hs2 hf2
    ·rename_i hj
     simp only[Uw,Prod.mk.injEq]at h
     obtain⟨rfl,rfl,rfl⟩:=h
     dsimp only
     rw[if_neg hj]
     exact hQ a2 W2 C2 hs2 hf2
   |ret=>
    simp only[Uw,Prod.mk.injEq]at h
    obtain⟨rfl,rfl,rfl⟩:=h
    exact hQ a2 W2 C2 hs2 hf2
 |loop c ih=>
  intro hl act act' a S S' W C e hs h Q hQ
  simp only[linC]at hl
  simp only[Yr]at h
  refine wp_loop_ix (λm b w=>∃act1 S1 C1,St E w C1 S1 act1 b/\Fr W C S w C1 S1/\loopD (Yr E call n c) m act1 S1=some (e,act',S')) ?_ (n:=n) ⟨act,S,C,hs,Fr.refl _ _ _,h⟩
  rintro m b w ⟨act1,S1,C1,hs1,hf1,h1⟩
  cases m with
  |zero=>simp[loopD]at h1
  |succ m=>
   unfold loopD at h1
   cases hx:Yr E call n c act1 S1 with
   |none=>rw[hx]at h1;cases h1
   |some r=>
    obtain⟨ex,a2,S2⟩:=r
    rw[hx]at h1
    refine ih hl hs1 hx (λa3 W3 C3 hs3 hf3=>?_)
    cases ex with
    |normal=>exact⟨m,Nat.lt_succ_self m,a2,S2,C3,hs3,hf1.trans hf3,h1⟩
    |exit j=>
     simp only[Uw,Prod.mk.injEq]at h1
     obtain⟨rfl,rfl,rfl⟩:=h1
     exact hQ a3 W3 C3 hs3 (hf1.trans hf3)
    |ret=>
     simp only[Uw,Prod.mk.injEq]at h1
     obtain⟨rfl,rfl,rfl⟩:=h1
     exact hQ a3 W3 C3 hs3 (hf1.trans hf3)
 |exit id=>
  intro _ act act' a S S' W C e hs h Q hQ
  simp only[Yr,Uw,Prod.mk.injEq]at h
  obtain⟨rfl,rfl,rfl⟩:=h
  exact wp_exit (hQ a W C hs (Fr.refl _ _ _))
 |scope c ih=>
  intro hl act act' a S S' W C e hs h Q hQ
  simp only[linC]at hl
  simp only[Yr]at h
  refine wp_scope_straight (ih hl hs h (λa2 W2 C2 hs2 hf2=>?_))
  cases e <;> exact hQ a2 W2 C2 hs2 hf2
 |label l=>
  intro _ act act' a S S' W C e hs h Q hQ
  simp only[Yr,Uw,Prod.mk.injEq]at h
  obtain⟨rfl,rfl,rfl⟩:=h
  exact wp_label (hQ a W C hs (Fr.refl _ _ _))
 |ret=>
  intro _ act act' a S S' W C e hs h Q hQ
  simp only[Yr,Uw,Prod.mk.injEq]at h
  obtain⟨rfl,rfl,rfl⟩:=h
  exact wp_ret (hQ a W C hs (Fr.refl _ _ _))
 |goto l=>intro _ act act' a S S' W C e hs h;simp[Yr]at h
 |refuse w=>intro _ act act' a S S' W C e hs h;simp[Yr]at h
 |rangeFunc f ps x y _ _=>intro _ act act' a S S' W C e hs h;simp[Yr]at h
def readRes (tmps:Array Value):ResultVar->Sem Value
 | .tmp t=>pure (tmps.getD t undef)
 | .cell a t=>do loadVar t (<-asAddr (tmps.getD a undef))
theorem res_run {P:Program} {W:World} {C:Cx} {S:List Ob} (hs:SR W C S) {act:List D} {tmps:Array Value} (hA:VRs W C act tmps.toList):∀ {l:List ResultVar} {ds:List D},resD P act S l=some ds->
  ∃vs,(l.mapM (readRes tmps)).run P W=.ok vs W/\VRs W C ds vs
 | [],ds,h=>by simp[resD]at h;subst h;exact⟨[],by simp,VRs.nil⟩
 | .tmp t::l,ds,h=>by
  unfold resD at h
  split at h
  ·rename_i d ds' h1 h2
   cases h
   obtain⟨v,hv,hr⟩:=hA.get h1
   obtain⟨vs,hvs,hrs⟩:=res_run hs hA h2
   rw[Ul]at hv
   have e:tmps.getD t undef=v:=by simp[Uj,hv]
   refine⟨v::vs,?_,VRs.cons hr hrs⟩
   rw[List.mapM_cons]
   have e1:readRes tmps (.tmp t)=pure v:=by rw[<-e];rfl
   rw[e1]
   simp only[Sem.run_bind,Sem.run_pure,Result.andThen_ok,hvs]
  ·cases h
 | .cell a t::l,ds,h=>by
  unfold resD at h
  split at h
  ·rename_i x h1
   split at h
   ·rename_i d ds' h2 h3
    cases h
    obtain⟨v,hv,hr⟩:=hA.get h1
    obtain⟨vs,hvs,hrs⟩:=res_run hs hA h3
    rw[Ul]at hv
    unfold dLoad at h2
    split at h2
    ·rename_i cs o hb
     obtain⟨g,b,rfl,hc⟩:=behind_spec hs hr hb
     obtain⟨u,hu,hru⟩:=run_loadVar' (P:=P) h2 hc
     have e:tmps.getD a undef=.pointer (some ⟨g,b+o,none⟩):=by simp[Uj,hv]
     refine⟨u::vs,?_,VRs.cons hru hrs⟩
     rw[List.mapM_cons]
     have e1:(readRes tmps (.cell a t)).run P W=.ok u W:=by
      show (do loadVar t (<-asAddr (tmps.getD a undef)):Sem Value).run P W=_
      rw[e]
      simp only[asAddr,Sem.run_bind,Sem.run_pure,Result.andThen_ok,hu]
     simp only[Sem.run_bind,e1,Sem.run_pure,Result.andThen_ok,hvs]
    ·cases h2
   ·cases h
  ·cases h
theorem results_run {P:Program} {W:World} {C:Cx} {S:List Ob} (hs:SR W C S) {act:List D} {fn:Func} {tmps:Array Value} (hA:VRs W C act tmps.toList) {ds:List D} (h:resD P act S fn.results.toList=some ds):
  ∃v,(results fn tmps).run P W=.ok v W/\VR W C (tupD ds) v:=by
 obtain⟨vs,hvs,hrs⟩:=res_run (P:=P) hs hA h
 have e:(results fn tmps).run P W=.ok (if h:vs.toArray.size=1 then vs.toArray[0] else .tuple vs.toArray) W:=by
  unfold results
  rw[Array.mapM_eq_mapM_toList]
  change (do let vs <-List.toArray <$> fn.results.toList.mapM (readRes tmps);pure (if h:vs.size=1 then vs[0] else .tuple vs):Sem Value).run P W=_
  simp only[Sem.run_bind,Sem.run_map,hvs,Result.andThen_ok,Sem.run_pure]
 rw[e]
 match ds,vs,hrs with
 | [d],[v],hrs=>exact⟨v,rfl,hrs.head⟩
 | [],[],hrs=>exact⟨.tuple #[],rfl,VR.tup_of hrs⟩
 |d::e::l,u::v::m,hrs=>exact⟨.tuple (u::v::m).toArray,by simp,VR.tup_of hrs⟩
 | [],_::_,hrs=>have:=hrs.1;simp at this
 | [_],[],hrs=>have:=hrs.1;simp at this
 | [_],_::_::_,hrs=>have:=hrs.1;simp at this
 |_::_::_,[],hrs=>have:=hrs.1;simp at this
 |_::_::_,[_],hrs=>have:=hrs.1;simp at this
theorem VRs.replicate {W:World} {C:Cx} {d:D} {v:Value} (h:VR W C d v) (n:Nat):VRs W C (List.replicate n d) (List.replicate n v):=by
 induction n with
 |zero=>exact VRs.nil
 |succ n ih=>exact VRs.cons h ih
theorem dcall_ok {E:Env} (hE:EnvOk E):∀n,CallOk E (Yb E n)
 |0=>λf args S d S' h=>by simp[Yb]at h
 |n+1=>by
  intro f args S d S' h W C vargs hs hP hG hv
  have ih:=dcall_ok hE n
  unfold Yb at h
  split at h
  ·cases h
  ·rename_i hmode
   split at h
   ·rename_i p hp
    exact hE.prims f p hp args S d S' h W C vargs hs hP hG hv
   split at h
   ·rename_i fn hf
    split at h
    ·rename_i c hb
     have hlen:args.length=vargs.size:=by have:=hv.1;simpa using this
     have hst:St E W C S (args++List.replicate (fn.ntmps-args.length) (.tup [])) { tmps:=vargs++Array.replicate (fn.ntmps-vargs.size) undef,defers:=[] }:=by
      refine⟨hs,hP,hG,⟨?_,rfl⟩⟩
      rw[Array.toList_append,Array.toList_replicate,hlen]
      exact hv.append (VRs.replicate undef_vr _)
     refine⟨⟨fn,hf,by rw[hb];rfl⟩,calls_of_wp hf hb ?_⟩
     have fin:∀ {e:DX} {act':List D} {S1:List Ob},Yr E (Yb E n) n c (args++List.replicate (fn.ntmps-args.length) (.tup [])) S=some (e,act',S1)->e=.normal∨e=.ret->(resD E.P act' S1 fn.results.toList).map (λds=>(tupD ds,S1))=some (d,S')->
       c.wp E.P (bodyPost E.P fn λe W'=>∃v C',e=.returned v/\VR W' C' d v/\SR W' C' S'/\Fr W C S W' C' S') { tmps:=vargs++Array.replicate (fn.ntmps-vargs.size) undef,defers:=[] } W:=by
      intro e act' S1 hcode he hres
      obtain⟨ds,hds,heq⟩:=Ks.1 hres
      cases heq
      refine code_wp hE ih c (hE.lin f fn c hf hb hmode) hst hcode (λa' W' C' hs' hf'=>?_)
      obtain⟨v,hr,hrv⟩:=results_run (P:=E.P) hs'.sr hs'.a.vals hds
      rcases he with rfl |rfl
      ·exact⟨hs'.a.defers,v,hr,v,C',rfl,hrv,hs'.sr,hf'⟩
      ·exact⟨hs'.a.defers,v,hr,v,C',rfl,hrv,hs'.sr,hf'⟩
     cases hcode:Yr E (Yb E n) n c (args++List.replicate (fn.ntmps-args.length) (.tup [])) S with
     |none=>rw[hcode]at h;cases h
     |some r=>
      obtain⟨e,act',S1⟩:=r
      rw[hcode]at h
      cases e with
      |normal=>exact fin hcode (.inl rfl) h
      |exit id=>cases h
      |ret=>exact fin hcode (.inr rfl) h
    ·cases h
   ·cases h
theorem calls_of_dcall {E:Env} (hE:EnvOk E) {n:Nat} {f:FuncId} {args:List D} {d:D} {T:List Ob} (h:Yb E n f args []=some (d,T)) {W:World} {I:Nat->Prop} {vargs:Array Value} (hI:∀g,I g->g<W.heap.size)
  (hG:GR W ⟨E.P,λ_=>none,I⟩ E.G) (hv:VRs W ⟨E.P,λ_=>none,I⟩ args vargs.toList):
  Calls E.P f vargs W λe W'=>∃v C',e=.returned v/\VR W' C' d v/\Below W.heap.size W W':=by
 have hs0:SR W ⟨E.P,λ_=>none,I⟩ []:=⟨λk ob hk=>(by simp at hk),λk x hx=>(by cases hx),λk k' ob ob' x x' hk=>(by simp at hk),hI⟩
 refine (dcall_ok hE n f args [] d T h W _ vargs hs0 rfl hG hv).2.mono ?_
 rintro e W' ⟨v,C',rfl,hr,hs,hf⟩
 refine⟨v,C',rfl,hr,⟨hf.os,hf.tape,hf.output,hf.size,λk hk=>hf.keep k hk ?_⟩⟩
 rintro⟨i,o,s,t,T',h1,-⟩
 simp at h1
theorem true_of_dcall {E:Env} (hE:EnvOk E) {n:Nat} {f:FuncId} {args:List D} {T:List Ob} (h:Yb E n f args []=some (.bool true,T)) {W:World} {I:Nat->Prop} {vargs:Array Value} (hI:∀g,I g->g<W.heap.size)
  (hG:GR W ⟨E.P,λ_=>none,I⟩ E.G) (hv:VRs W ⟨E.P,λ_=>none,I⟩ args vargs.toList):
  Calls E.P f vargs W λe W'=>e=.returned (.bool true)/\Below W.heap.size W W':=by
 refine (calls_of_dcall hE h hI hG hv).mono ?_
 rintro e W' ⟨v,C',rfl,hr,hb⟩
 cases hr
 exact⟨rfl,hb⟩
def aftL (ops:Array Oper):List (List Nat):=ops.toList.map λo=>(o.after.toList.filter λe=>Region.binds .any e).map (·.on)
def readyM (n:Nat) (aft:List (List Nat)) (m:Nat):List Nat:=(List.range n).filter λi=> !m.testBit i && ((aft[i]?).map (·.all m.testBit)).getD false
def freeM (n:Nat) (bf com:List Nat) (L:List Nat) (m i:Nat):Bool:=(slotN L i).isNone && (List.range n).all λj=>j == i || m.testBit j || (bf.getD j 0).testBit i || (com.getD i 0).testBit j
def planM (n:Nat) (aft:List (List Nat)) (bf com:List Nat) (L:List Nat):Bool->Nat->Nat->Plan->Bool
 |false,0,m,.done=>(readyM n aft m).isEmpty
 |inB,f+1,m,.step i p=>(readyM n aft m).contains i && (inB || readyM n aft m == [i] || freeM n bf com L m i) && planM n aft bf com L false f (m ||| 2 ^ i) p
 |inB,f+1,m,.both p q=>(inB || (!(readyM n aft m).isEmpty && (readyM n aft m).all λi=>(p.heads++q.heads).contains i)) && planM n aft bf com L true (f+1) m p && planM n aft bf com L true (f+1) m q
 |_,_,_,_=>false
def comOk (E:Env) (ops:Array Oper) (com:List Nat):Bool:=
 ops.zipIdx.toList.all λ(x,i)=>ops.zipIdx.toList.all λ(y,j)=> !(com.getD i 0).testBit j || (okPair (clO E true x.op) (clO E true y.op) && x.apart ops y)
structure LiM (n:Nat) (listed:Array Bool) (m:Nat):Prop where
 size:listed.size=n
 at_:∀i,i<n->listed[i]?=some (m.testBit i)
 out:∀i,n<=i->m.testBit i=false
theorem LiM.getF {n m i:Nat} {listed:Array Bool} (h:LiM n listed m):listed.getD i false=m.testBit i:=by
 rw[Uj]
 by_cases hi:i<n
 ·rw[h.at_ i hi];rfl
 ·rw[Array.getElem?_eq_none (by rw[h.size];omega),h.out i (by omega)];rfl
theorem LiM.getT {n m i:Nat} {listed:Array Bool} (h:LiM n listed m) (hi:i<n):listed.getD i true=m.testBit i:=by
 rw[Uj,h.at_ i hi];rfl
theorem LiM.put {n m i:Nat} {listed:Array Bool} (h:LiM n listed m) (hi:i<n):LiM n (listed.setIfInBounds i true) (m ||| 2 ^ i) where
 size:=by rw[Array.size_setIfInBounds];exact h.size
 at_ j hj:=by
  rw[Nat.testBit_or,Nat.testBit_two_pow]
  by_cases e:i=j
  ·subst e
   rw[Array.getElem?_setIfInBounds_self_of_lt (by rw[h.size];exact hi)]
   simp
  ·rw[Array.getElem?_setIfInBounds_ne e,h.at_ j hj]
   simp[e]
 out j hj:=by
  rw[Nat.testBit_or,Nat.testBit_two_pow,h.out j hj]
  have:¬i=j:=by omega
  simp[this]
theorem LiM.none (n:Nat):LiM n (Array.replicate n false) 0 where
 size:=by simp
 at_ i hi:=by simp[hi]
 out i _:=by simp
theorem after_all {P:Nat->Bool}:∀(l:List Edge),(l.all λe=> !Region.binds .any e || P e.on)=((l.filter λe=>Region.binds .any e).map (·.on)).all P
 | []=>rfl
 |e::l=>by
  rw[List.all_cons,after_all l,List.filter_cons]
  cases h:Region.binds .any e <;> simp[h]
theorem ready_eq {ops:Array Oper} {aft:List (List Nat)} (ha:aftL ops=aft) {listed:Array Bool} {m:Nat} (h:LiM ops.size listed m):Region.ready .any ops listed=readyM ops.size aft m:=by
 subst ha
 unfold Region.ready readyM
 refine List.filter_congr λi hi=>?_
 have hi:=List.mem_range.1 hi
 rw[h.getT hi]
 congr 1
 unfold aftL
 rw[Vd,Ul]
 rcases e:ops[i]? with _ |o
 ·rfl
 ·simp only[Vm,Option.getD_some]
  rw[<-Array.all_toList]
  have:(λe:Edge=> !Region.binds .any e || listed.getD e.on false)=λe=> !Region.binds .any e || m.testBit e.on:=by
   funext e;rw[h.getF]
  rw[this,after_all]
theorem free_of {E:Env} {ops:Array Oper} {bf com L:List Nat} (hc:comOk E ops com=true) {listed:Array Bool} {m i:Nat} (h:LiM ops.size listed m) (hf:freeM ops.size bf com L m i=true) (hi:i<ops.size):freeAt E ops bf.toArray L listed i=true:=by
 unfold freeM at hf
 unfold freeAt
 rw[Kv]at hf ⊢
 refine⟨hf.1,?_⟩
 rw[List.all_eq_true] at*
 intro j hj
 have hjn:=List.mem_range.1 hj
 have hq:=hf.2 j hj
 rw[h.getT hjn]
 simp only[Bool.or_eq_true]at hq ⊢
 rcases hq with ((hq |hq) |hq) |hq
 ·exact .inl (.inl (.inl hq))
 ·exact .inl (.inl (.inr hq))
 ·refine .inl (.inr ?_)
  rw[Uj,Ub,<-List.getD_eq_getElem?_getD]
  exact hq
 ·refine .inr ?_
  rw[Uz hi,Uz hjn]
  dsimp only
  have h1:=List.all_eq_true.1 hc (ops[i],i) (by
   rw[Vv]
   exact⟨i,by rw[Ul,Array.getElem?_zipIdx,Uz hi];simp⟩)
  have h2:=List.all_eq_true.1 h1 (ops[j],j) (by
   rw[Vv]
   exact⟨j,by rw[Ul,Array.getElem?_zipIdx,Uz hjn];simp⟩)
  dsimp only at h2
  rw[hq]at h2
  simpa using h2
theorem planM_ok {E:Env} {ops:Array Oper} {aft:List (List Nat)} {bf com L:List Nat} (ha:aftL ops=aft) (hc:comOk E ops com=true):∀(p:Plan) (inB:Bool) (f m:Nat) (listed:Array Bool),LiM ops.size listed m->planM ops.size aft bf com L inB f m p=true->Kg E ops bf.toArray L inB f listed p=true
 | .done,inB,f,m,listed,h,hp=>by
  cases inB <;> cases f <;> simp only[planM,Ui]at hp
  unfold Kg
  rw[ready_eq ha h];exact hp
 | .step i p,inB,f,m,listed,h,hp=>by
  cases f with
  |zero=>cases inB <;> simp[planM]at hp
  |succ f=>
   have hp':((readyM ops.size aft m).contains i && (inB || readyM ops.size aft m == [i] || freeM ops.size bf com L m i) && planM ops.size aft bf com L false f (m ||| 2 ^ i) p)=true:=by cases inB <;> exact hp
   simp only[Kv]at hp'
   obtain⟨⟨h1,h2⟩,h3⟩:=hp'
   have hi:i<ops.size:=by
    have:=List.contains_iff_mem.1 h1
    unfold readyM at this
    exact List.mem_range.1 (List.mem_filter.1 this).1
   have h3:=planM_ok ha hc p false f _ _ (h.put hi) h3
   have:((Region.ready .any ops listed).contains i && (inB || Region.ready .any ops listed == [i] || freeAt E ops bf.toArray L listed i) && Kg E ops bf.toArray L false f (listed.setIfInBounds i true) p)=true:=by
    rw[ready_eq ha h,h1,h3,Bool.true_and,Ua]
    simp only[Bool.or_eq_true]at h2 ⊢
    rcases h2 with h2 |h2
    ·exact .inl h2
    ·exact .inr (free_of hc h h2 hi)
   cases inB <;> exact this
 | .both p q,inB,f,m,listed,h,hp=>by
  cases f with
  |zero=>cases inB <;> simp[planM]at hp
  |succ f=>
   have hp':((inB || (!(readyM ops.size aft m).isEmpty && (readyM ops.size aft m).all λi=>(p.heads++q.heads).contains i)) && planM ops.size aft bf com L true (f+1) m p && planM ops.size aft bf com L true (f+1) m q)=true:=by cases inB <;> exact hp
   simp only[Kv]at hp'
   obtain⟨⟨h1,h2⟩,h3⟩:=hp'
   have h2:=planM_ok ha hc p true (f+1) _ _ h h2
   have h3:=planM_ok ha hc q true (f+1) _ _ h h3
   have:((inB || (!(Region.ready .any ops listed).isEmpty && (Region.ready .any ops listed).all λi=>(p.heads++q.heads).contains i)) && Kg E ops bf.toArray L true (f+1) listed p && Kg E ops bf.toArray L true (f+1) listed q)=true:=by
    rw[ready_eq ha h,h1,h2,h3];rfl
   cases inB <;> exact this
theorem planR_of {E:Env} {ops:Array Oper} {n:Nat} {aft:List (List Nat)} {bf com L:List Nat} {p:Plan} (hn:ops.size=n) (ha:aftL ops=aft) (hb:(Region.before ops).toList=bf) (hah:aheadOk ops bf.toArray=true) (hc:comOk E ops com=true) (hp:planM n aft bf com L false n 0 p=true):planR E ops L p=true:=by
 subst hn
 have hb':Region.before ops=bf.toArray:=by rw[<-hb]
 unfold planR
 rw[hb',hah,Bool.true_and]
 exact planM_ok ha hc p false _ 0 _ (LiM.none _) hp
def keyR (id:Nat) (ops:Array Oper):Nat:=id*1000+ops.size
def linT (E:Env) (T:List Nat):Code->Bool
 | .region id ops draw=>(draw && T.contains (keyR id ops)) || linC E (.region id ops draw)
 | .seq x y=>linT E T x && linT E T y
 | .cond _ x y=>linT E T x && linT E T y
 | .block _ c=>linT E T c
 | .loop c=>linT E T c
 | .scope c=>linT E T c
 |_=>true
def heavyIn (T:List Nat):Code->List (Nat×Array Oper)
 | .region id ops draw=>if draw && T.contains (keyR id ops) then [(id,ops)] else []
 | .seq x y=>heavyIn T x++heavyIn T y
 | .cond _ x y=>heavyIn T x++heavyIn T y
 | .block _ c=>heavyIn T c
 | .loop c=>heavyIn T c
 | .scope c=>heavyIn T c
 |_=>[]
theorem linT_ok {E:Env} {T:List Nat}:∀c:Code,linT E T c=true->(∀r∈heavyIn T c,linC E (.region r.1 r.2 true)=true)->linC E c=true:=by
 intro c
 induction c with
 |region id ops draw=>
  intro h k
  unfold linT at h
  rw[Bool.or_eq_true]at h
  rcases h with h |h
  ·have hd:draw=true:=by rw[Kv]at h;exact h.1
   subst hd
   exact k (id,ops) (by unfold heavyIn;rw[if_pos h];simp)
  ·exact h
 |seq x y ihx ihy=>
  intro h k
  simp only[linT,Kv]at h
  simp only[linC,ihx h.1 (λr hr=>k r (by simp[heavyIn,hr])),ihy h.2 (λr hr=>k r (by simp[heavyIn,hr])),Bool.and_self]
 |cond c x y ihx ihy=>
  intro h k
  simp only[linT,Kv]at h
  simp only[linC,ihx h.1 (λr hr=>k r (by simp[heavyIn,hr])),ihy h.2 (λr hr=>k r (by simp[heavyIn,hr])),Bool.and_self]
 |block id c ih=>intro h k;exact ih h k
 |loop c ih=>intro h k;exact ih h k
 |scope c ih=>intro h k;exact ih h k
 |_=>intro h k;rfl
def findR (id n:Nat):Code->Option (Array Oper)
 | .region j ops draw=>if draw && (j == id && ops.size == n) then some ops else none
 | .seq x y=>(findR id n x).or (findR id n y)
 | .cond _ x y=>(findR id n x).or (findR id n y)
 | .block _ c=>findR id n c
 | .loop c=>findR id n c
 | .scope c=>findR id n c
 |_=>none
def opsAt (f:Option Func) (id n:Nat):Array Oper:=(((f.bind (·.body)).bind (findR id n))).getD #[]
def noFs:List Nat:=[]
def extFs:List Nat:=[74]
def obsFs:List Nat:=[96,97,54,72,30,73,70,128,95,90,91,92,35,75,15,16,17,12,38,39,40,222,176,213]
def genFs:List Nat:=[24,25,53,55,26,31,50,36,223,45]
def modeOf (f:Nat):Mode:=if noFs.contains f then .no else if extFs.contains f then .ext else if genFs.contains f then .gen else if obsFs.contains f then .obs else .pure
def keyTs:List Nat:=[9]
def ovlFs:List (Nat×Nat):=[]
def cntFs:List Nat:=[]
def idxFs:List Nat:=[]
def clnFs:List Nat:=[]
noncomputable def extOf (g:Nat):Option (List Ob->List D->Option (D×List Ob)):=if cntFs.contains g then some λS l=>(dCount l).map (·,S) else if idxFs.contains g then some λS l=>(dIndexB l).map (·,S) else if clnFs.contains g then some λS l=>dClone S l else match ovlFs.find? λp=>p.1 == g with
 |some p=>some λS l=>(dOverlaps Tryz.prog S p.2 l).map (·,S)
 |none=>none
def Yj:  List Nat->Plan->Plan
 | [],p=>p
 |i::l,p=>.step i (Yj l p)
def planKey (id:Nat):List Oper->Nat
 | []=>id*1000
 |o::l=>id*1000+(l.length+1)+1000000*o.dst.getD 0
@[push_cast] theorem planKey_cons {id:Nat} {op:Op} {dst:Option Tmp} {g:Option (Nat×Bool)} {ft:Array Edge} {pos:String} {ty:TypeId} {l:List Oper}:planKey id ({ op:=op,dst:=dst,guard:=g,after:=ft,pos:=pos,type:=ty }::l)=id*1000+(l.length+1)+1000000*dst.getD 0:=rfl
def planL:  List (Nat×List Nat×Plan):=[
 (39008014,[10,11],Yj [0,1,2,3,4,5,7] (.both (Yj [6] (.both (Yj [8] (.both (Yj [9] (.both (Yj [10,11,12,13] .done) (Yj [11,10,12,13] .done))) (.both (Yj [10] (.both (Yj [9,11,12,13] .done) (Yj [11] (.both (Yj [9,12,13] .done) (Yj [12,9,13] .done))))) (Yj [11] (.both (Yj [9,10,12,13] .done) (Yj [10] (.both (Yj [9,12,13] .done) (Yj [12,9,13] .done)))))))) (.both (Yj [10] (.both (Yj [8] (.both (Yj [9,11,12,13] .done) (Yj [11] (.both (Yj [9,12,13] .done) (Yj [12,9,13] .done))))) (Yj [11] (.both (Yj [8] (.both (Yj [9,12,13] .done) (Yj [12,9,13] .done))) (Yj [12,8,9,13] .done))))) (Yj [11] (.both (Yj [8] (.both (Yj [9,10,12,13] .done) (Yj [10] (.both (Yj [9,12,13] .done) (Yj [12,9,13] .done))))) (Yj [10] (.both (Yj [8] (.both (Yj [9,12,13] .done) (Yj [12,9,13] .done))) (Yj [12,8,9,13] .done)))))))) (.both (Yj [10] (.both (Yj [6] (.both (Yj [8] (.both (Yj [9,11,12,13] .done) (Yj [11] (.both (Yj [9,12,13] .done) (Yj [12,9,13] .done))))) (Yj [11] (.both (Yj [8] (.both (Yj [9,12,13] .done) (Yj [12,9,13] .done))) (Yj [12,8,9,13] .done))))) (Yj [11] (.both (Yj [6] (.both (Yj [8] (.both (Yj [9,12,13] .done) (Yj [12,9,13] .done))) (Yj [12,8,9,13] .done))) (Yj [12,6,8,9,13] .done))))) (Yj [11] (.both (Yj [6] (.both (Yj [8] (.both (Yj [9,10,12,13] .done) (Yj [10] (.both (Yj [9,12,13] .done) (Yj [12,9,13] .done))))) (Yj [10] (.both (Yj [8] (.both (Yj [9,12,13] .done) (Yj [12,9,13] .done))) (Yj [12,8,9,13] .done))))) (Yj [10] (.both (Yj [6] (.both (Yj [8] (.both (Yj [9,12,13] .done) (Yj [12,9,13] .done))) (Yj [12,8,9,13] .done))) (Yj [12,6,8,9,13] .done)))))))),
 (15001013,[3,6],Yj [0,1,2,4,5] (.both (Yj [3,7,8] (.both (Yj [6,9,10,11,12] .done) (Yj [9,6,10,11,12] .done))) (Yj [6,3,7,8,9,10,11,12] .done))),
 (82014023,[],Yj [0,1,2,4,5,6,7,8,9,10,11,12,13,14,15,16,17,18,19] (.both (Yj [3,20,21,22] .done) (Yj [20,3,21,22] .done))),
 (32006022,[],Yj [0,1,2,3,4,5,6,7,9,10,11,13] (.both (Yj [8,12,16,17] (.both (Yj [14,15,18,19,20,21] .done) (Yj [18,14,15,19,20,21] .done))) (.both (Yj [12] (.both (Yj [8,16,17] (.both (Yj [14,15,18,19,20,21] .done) (Yj [18,14,15,19,20,21] .done))) (Yj [14,8,15,16,17,18,19,20,21] .done))) (Yj [14] (.both (Yj [8,12,15,16,17,18,19,20,21] .done) (Yj [12,8,15,16,17,18,19,20,21] .done)))))),
 (56008026,[],Yj [0,1,2,3,4,5,6,7,8,9,10,11,12,13,14,15,16,17,20,21] (.both (Yj [18,19,22,23,24,25] .done) (Yj [22,18,19,23,24,25] .done))),
 (51009024,[],Yj [0,1,2,3,4,5,6,7,8,10,12,13] (.both (Yj [9,11,14,15,16,17,18,19,20,21,22,23] .done) (.both (Yj [11] (.both (Yj [9,14,15,16,17,18,19,20,21,22,23] .done) (Yj [14,15,16] (.both (Yj [9,17,18,19,20,21,22,23] .done) (Yj [17,9,18,19,20,21,22,23] .done))))) (Yj [14,15,16] (.both (Yj [9,11,17,18,19,20,21,22,23] .done) (.both (Yj [11] (.both (Yj [9,17,18,19,20,21,22,23] .done) (Yj [17,9,18,19,20,21,22,23] .done))) (Yj [17,18] (.both (Yj [9,11,19,20,21,22,23] .done) (Yj [11,9,19,20,21,22,23] .done))))))))),
 (86011016,[],Yj [0,1,2,3,5,6,7,8,10,11] (.both (Yj [4,9,12,13,14,15] .done) (Yj [9] (.both (Yj [4,12,13,14,15] .done) (Yj [12,4,13,14,15] .done))))),
 (26001015,[12],Yj [0,1,2,3,4,5,6,7] (.both (Yj [8,9,10,11,12,13,14] .done) (Yj [12,8,9,10,11,13,14] .done))),
 (27002024,[21],Yj [0,1,2,3,4,5,6,7,8,9,10,11,12,13,14,15,16] (.both (Yj [17,18,19,20,21,22,23] .done) (Yj [21,17,18,19,20,22,23] .done))),
 (0,[],.done)]
def planIds:  List Nat:=[
 39008014,
 15001013,
 82014023,
 32006022,
 56008026,
 51009024,
 86011016,
 26001015,
 27002024,
 0]
def planOf (id:Nat) (ops:Array Oper):Option (List Nat×Plan):=if planIds.contains (planKey id ops.toList) then (planL.find? λp=>p.1 == planKey id ops.toList).map (·.2) else none
abbrev PrimF:=FuncId->Option (List D->List Ob->Option (D×List Ob))
noncomputable def Je (pr:PrimF):Env:={ P:=Tryz.prog,G:=λ_=>none,mode:=modeOf,keys:=λt=>keyTs.contains t,prim:=pr,ext:=extOf,plan:=planOf }
noncomputable abbrev E0:Env:=Je λ_=>none
noncomputable def prim1 (f:FuncId):Option (List D->List Ob->Option (D×List Ob)):=
 none
noncomputable abbrev E1:Env:=Je prim1
def primFs:List Nat:=[]
noncomputable def primOf (f:FuncId):Option (List D->List Ob->Option (D×List Ob)):=if primFs.contains f then some (λargs S=>match args with
 | []=>some (.bool true,S)
 |_::_=>none) else
 prim1 f
noncomputable abbrev E:Env:=Je primOf
def linF (E:Env) (f:Nat):Bool:=
 match E.P.funcs[f]? with
 |some fn=>decide (E.mode f=.no) || (match fn.body with
  |some c=>linC E c
  |none=>true)
 |none=>true
def nameF (E:Env) (f:Nat):Bool:=
 match E.P.funcs[f]? with
 |some fn=>fn.name != "runtime.NumGoroutine"
 |none=>true
def heavyFs:List Nat:=[16,24,25,83,54,53,55]
theorem all_cons' {α:Type} {p:α->Bool} {a:α} {l:List α} (h1:p a=true) (h2:l.all p=true):(a::l).all p=true:=by rw[List.all_cons,h1,h2];rfl
theorem linC_plan {id:Nat} {ops:Array Oper} {L:List Nat} {p:Plan} (h:planOf id ops=some (L,p)) (h2:planR E0 ops L p=true):linC E0 (.region id ops true)=true:=by
 unfold linC
 show (!true || (match planOf id ops with
  |none=>linR E0 (strictR E0 ops) ops
  |some (L,p)=>planR E0 ops L p))=true
 rw[h];exact h2
def RegOk (r:Nat×Array Oper):Prop:=linC E0 (.region r.1 r.2 true)=true
theorem reg_nil:∀r∈([]:List (Nat×Array Oper)),RegOk r:=λr h=>by cases h
theorem reg_cons {a:Nat} {b:Array Oper} {l:List (Nat×Array Oper)} (h:linC E0 (.region a b true)=true) (k:∀r∈l,RegOk r):∀r∈(a,b)::l,RegOk r:=λr hr=>by
 rcases List.mem_cons.1 hr with e |hr
 ·rw[e];exact h
 ·exact k r hr
theorem linF_of {f:Nat} {fn:Func} {c:Code} {R:List (Nat×Array Oper)} (hf:Tryz.prog.funcs[f]?=some fn) (hb:fn.body=some c) (T:List Nat) (h1:linT E0 T c=true) (h2:heavyIn T c=R) (h3:∀r∈R,RegOk r):linF E0 f=true:=by
 unfold linF
 rw[show E0.P.funcs[f]?=some fn from hf]
 dsimp only
 rw[hb]
 dsimp only
 rw[linT_ok c h1 (λr hr=>h3 r (h2 ▸ hr)),Bool.or_true]
end Go.Proofs.YtaklebjoenophaaGreat.Dm
