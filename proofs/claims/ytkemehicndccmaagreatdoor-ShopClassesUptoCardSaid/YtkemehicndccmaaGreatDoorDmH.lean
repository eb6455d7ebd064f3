/-
  The machine's runs of code and its calls are what the model does: what the machine hands back, the model's call hands back.
  An argument of plain types, as it lies in memory, is a datum of the machine; and it reads as before where nothing old turned.
-/
import Derived.Test.YtkemehicndccmaaGreatDoorDmG
import Derived.Scope
import Derived.Test.YtkemehicndccmaaGreatDoorDmR
import Derived.ChangeArms
import Derived.DataReads
import Derived.Carry
set_option linter.unusedSimpArgs false
set_option linter.unusedVariables false
namespace Go.Proofs.YtkemehicndccmaaGreatDoor.Dm
open Go Go.RowKit

theorem wp_loop_ix {P:Program} {c:Code} {Q:Exit→Act→World→Prop} (I:Nat→Act→World→Prop) (round:∀n a w,I n a w→c.wp P (Exit.then (fun a' w'=>∃m,m<n∧I m a' w') Q) a w) {n:Nat} {a:Act} {w:World} (h0:I n a w):(Code.loop c).wp P Q a w:=by
 intro b k cs
 have key:∀n a w,I n a w→∃e a' w',Q e a' w'∧Arrives P (lone (b.at a (.code c:: .inLoop c::k)) cs w) b k cs e a' w':=by
  intro n
  induction n using Nat.strongRecOn with
  |_ n ih=>
   intro a w hI
   obtain⟨e,a₁,w₁,hq,harr⟩:=round n a w hI b (.inLoop c::k) cs
   cases e with
   |normal=>
    obtain⟨m,hlt,hI₁⟩:=hq
    obtain⟨e₂,a₂,w₂,hq₂,harr₂⟩:=ih m hlt a₁ w₁ hI₁
    exact⟨e₂,a₂,w₂,hq₂,.of_steps (Steps.trans harr (.one step_inLoop)) harr₂⟩
   |exit id=>exact⟨_,a₁,w₁,hq,.pass (x:=.inLoop c) rfl (fun _ _=>.inl (by simp)) harr⟩
   |goto l=>exact⟨_,a₁,w₁,hq,.pass (x:=.inLoop c) rfl (fun _ _=>.inl (by simp)) harr⟩
   |ret=>exact⟨_,a₁,w₁,hq,.pass (x:=.inLoop c) rfl (fun _ _=>.inl (by simp)) harr⟩
   |panic ch=>exact⟨_,a₁,w₁,hq,.pass (x:=.inLoop c) rfl (fun _ _=>.inl (by simp)) harr⟩
   |outgrown=>exact⟨_,a₁,w₁,hq,.pass (x:=.inLoop c) rfl (fun _ _=>.inl (by simp)) harr⟩
 obtain⟨e,a',w',hq,harr⟩:=key n a w h0
 exact⟨e,a',w',hq,.of_steps (.one step_loop) harr⟩
def exitOf:DX→Exit
 | .normal=>.normal
 | .exit id=>.exit id
 | .ret=>.ret
theorem code_wp {E:Env} {call:Call} (hE:EnvOk E) (hC:CallOk E call) {n:Nat}:∀(c:Code),linC E c=true→∀ {act act':List D} {a:Act} {S S':List Ob} {W:World} {C:Cx} {e:DX},St E W C S act a→codeD E call n c act S=some (e,act',S')→
  ∀ {Q:Exit→Act→World→Prop},(∀a' W' C',St E W' C' S' act' a'→Fr W C S W' C' S'→Q (exitOf e) a' W')→c.wp E.P Q a W:=by
 intro c
 induction c with
 |skip=>
  intro _ act act' a S S' W C e hs h Q hQ
  simp only[codeD,Option.some.injEq,Prod.mk.injEq]at h
  obtain⟨rfl,rfl,rfl⟩:=h
  exact wp_skip (hQ a W C hs (Fr.refl _ _ _))
 |region id ops draw=>
  intro hl act act' a S S' W C e hs h Q hQ
  simp only[codeD]at h
  unfold linC at hl
  have plain:(draw=true→linR E (strictR E ops) ops=true)→((match runD E call (draw && strictR E ops) ops ops.toList act S with
    |some (a',S')=>some (DX.normal,a',S')
    |none=>none):Out)=some (e,act',S')→(Code.region id ops draw).wp E.P Q a W:=by
   intro hl h
   split at h
   ·rename_i a1 S1 h1
    simp only[Option.some.injEq,Prod.mk.injEq]at h
    obtain⟨rfl,rfl,rfl⟩:=h
    exact region_wp hE hC hl hs h1 hQ
   ·cases h
  cases draw with
  |false=>exact plain (fun e=>by cases e) h
  |true=>
   simp only[Bool.not_true,Bool.false_or]at hl
   simp only[if_true]at h
   split at h
   ·rename_i hpl
    rw[hpl]at hl
    exact plain (fun _=>hl) h
   ·rename_i L p hpl
    rw[hpl]at hl
    dsimp only at hl
    split at h
    ·rename_i a1 S1 h1
     simp only[Option.some.injEq,Prod.mk.injEq]at h
     obtain⟨rfl,rfl,rfl⟩:=h
     exact region_plan hE hC hl hs h1 hQ
    ·cases h
 |seq x y ihx ihy=>
  intro hl act act' a S S' W C e hs h Q hQ
  simp only[linC,Bool.and_eq_true]at hl
  simp only[codeD]at h
  refine wp_seq ?_
  cases hx:codeD E call n x act S with
  |none=>rw[hx]at h;cases h
  |some r=>
   obtain⟨ex,a1,S1⟩:=r
   rw[hx]at h
   refine ihx hl.1 hs hx (fun a2 W2 C2 hs2 hf2=>?_)
   cases ex with
   |normal=>exact ihy hl.2 hs2 h (fun a3 W3 C3 hs3 hf3=>hQ a3 W3 C3 hs3 (hf2.trans hf3))
   |exit id=>
    simp only[Option.some.injEq,Prod.mk.injEq]at h
    obtain⟨rfl,rfl,rfl⟩:=h
    exact hQ a2 W2 C2 hs2 hf2
   |ret=>
    simp only[Option.some.injEq,Prod.mk.injEq]at h
    obtain⟨rfl,rfl,rfl⟩:=h
    exact hQ a2 W2 C2 hs2 hf2
 |cond c x y ihx ihy=>
  intro hl act act' a S S' W C e hs h Q hQ
  simp only[linC,Bool.and_eq_true]at hl
  simp only[codeD]at h
  have hev:=hs.a.eval (E:=E) hs.g c
  generalize hv:a.eval c=v at hev
  split at h
  ·rename_i hc
   rw[hc]at hev;cases hev
   exact wp_cond_true hv (ihx hl.1 hs h hQ)
  ·rename_i hc
   rw[hc]at hev;cases hev
   exact wp_cond_false hv (ihy hl.2 hs h hQ)
  ·cases h
 |block id c ih=>
  intro hl act act' a S S' W C e hs h Q hQ
  simp only[linC]at hl
  simp only[codeD]at h
  refine wp_block ?_
  cases hx:codeD E call n c act S with
  |none=>rw[hx]at h;cases h
  |some r=>
   obtain⟨ex,a1,S1⟩:=r
   rw[hx]at h
   refine ih hl hs hx (fun a2 W2 C2 hs2 hf2=>?_)
   cases ex with
   |normal=>
    simp only[Option.some.injEq,Prod.mk.injEq]at h
    obtain⟨rfl,rfl,rfl⟩:=h
    exact hQ a2 W2 C2 hs2 hf2
   |exit j=>
    simp only at h
    show Exit.inBlock id Q (.exit j) a2 W2
    unfold Exit.inBlock
    split at h
    ·rename_i hj
     simp only[Option.some.injEq,Prod.mk.injEq]at h
     obtain⟨rfl,rfl,rfl⟩:=h
     dsimp only
     rw[if_pos hj]
     exact hQ a2 W2 C2 hs2 hf2
    ·rename_i hj
     simp only[Option.some.injEq,Prod.mk.injEq]at h
     obtain⟨rfl,rfl,rfl⟩:=h
     dsimp only
     rw[if_neg hj]
     exact hQ a2 W2 C2 hs2 hf2
   |ret=>
    simp only[Option.some.injEq,Prod.mk.injEq]at h
    obtain⟨rfl,rfl,rfl⟩:=h
    exact hQ a2 W2 C2 hs2 hf2
 |loop c ih=>
  intro hl act act' a S S' W C e hs h Q hQ
  simp only[linC]at hl
  simp only[codeD]at h
  refine wp_loop_ix (fun m b w=>∃act1 S1 C1,St E w C1 S1 act1 b∧Fr W C S w C1 S1∧loopD (codeD E call n c) m act1 S1=some (e,act',S')) ?_ (n:=n) ⟨act,S,C,hs,Fr.refl _ _ _,h⟩
  rintro m b w ⟨act1,S1,C1,hs1,hf1,h1⟩
  cases m with
  |zero=>simp[loopD]at h1
  |succ m=>
   unfold loopD at h1
   cases hx:codeD E call n c act1 S1 with
   |none=>rw[hx]at h1;cases h1
   |some r=>
    obtain⟨ex,a2,S2⟩:=r
    rw[hx]at h1
    refine ih hl hs1 hx (fun a3 W3 C3 hs3 hf3=>?_)
    cases ex with
    |normal=>exact⟨m,Nat.lt_succ_self m,a2,S2,C3,hs3,hf1.trans hf3,h1⟩
    |exit j=>
     simp only[Option.some.injEq,Prod.mk.injEq]at h1
     obtain⟨rfl,rfl,rfl⟩:=h1
     exact hQ a3 W3 C3 hs3 (hf1.trans hf3)
    |ret=>
     simp only[Option.some.injEq,Prod.mk.injEq]at h1
     obtain⟨rfl,rfl,rfl⟩:=h1
     exact hQ a3 W3 C3 hs3 (hf1.trans hf3)
 |exit id=>
  intro _ act act' a S S' W C e hs h Q hQ
  simp only[codeD,Option.some.injEq,Prod.mk.injEq]at h
  obtain⟨rfl,rfl,rfl⟩:=h
  exact wp_exit (hQ a W C hs (Fr.refl _ _ _))
 |scope c ih=>
  intro hl act act' a S S' W C e hs h Q hQ
  simp only[linC]at hl
  simp only[codeD]at h
  refine wp_scope_straight (ih hl hs h (fun a2 W2 C2 hs2 hf2=>?_))
  cases e <;> exact hQ a2 W2 C2 hs2 hf2
 |label l=>
  intro _ act act' a S S' W C e hs h Q hQ
  simp only[codeD,Option.some.injEq,Prod.mk.injEq]at h
  obtain⟨rfl,rfl,rfl⟩:=h
  exact wp_label (hQ a W C hs (Fr.refl _ _ _))
 |ret=>
  intro _ act act' a S S' W C e hs h Q hQ
  simp only[codeD,Option.some.injEq,Prod.mk.injEq]at h
  obtain⟨rfl,rfl,rfl⟩:=h
  exact wp_ret (hQ a W C hs (Fr.refl _ _ _))
 |goto l=>intro _ act act' a S S' W C e hs h;simp[codeD]at h
 |refuse w=>intro _ act act' a S S' W C e hs h;simp[codeD]at h
 |rangeFunc f ps x y _ _=>intro _ act act' a S S' W C e hs h;simp[codeD]at h
def readRes (tmps:Array Value):ResultVar→Sem Value
 | .tmp t=>pure (tmps.getD t undef)
 | .cell a t=>do loadVar t (←asAddr (tmps.getD a undef))
theorem res_run {P:Program} {W:World} {C:Cx} {S:List Ob} (hs:SR W C S) {act:List D} {tmps:Array Value} (hA:VRs W C act tmps.toList):∀ {l:List ResultVar} {ds:List D},resD P act S l=some ds→
  ∃vs,(l.mapM (readRes tmps)).run P W=.ok vs W∧VRs W C ds vs
 | [],ds,h=>by simp[resD]at h;subst h;exact⟨[],by simp,VRs.nil⟩
 | .tmp t::l,ds,h=>by
  unfold resD at h
  split at h
  ·rename_i d ds' h1 h2
   cases h
   obtain⟨v,hv,hr⟩:=hA.get h1
   obtain⟨vs,hvs,hrs⟩:=res_run hs hA h2
   rw[Array.getElem?_toList]at hv
   have e:tmps.getD t undef=v:=by simp[Array.getD_eq_getD_getElem?,hv]
   refine⟨v::vs,?_,VRs.cons hr hrs⟩
   rw[List.mapM_cons]
   have e1:readRes tmps (.tmp t)=pure v:=by rw[←e];rfl
   rw[e1]
   simp only[Sem.run_bind,Sem.run_pure,Result.andThen_ok,hvs]
  ·cases h
 | .cell a t::l,ds,h=>by
  unfold resD at h
  split at h
  ·rename_i x h1
   split at h
   ·rename_i d ds' h2 h3
    cases h
    obtain⟨v,hv,hr⟩:=hA.get h1
    obtain⟨vs,hvs,hrs⟩:=res_run hs hA h3
    rw[Array.getElem?_toList]at hv
    unfold dLoad at h2
    split at h2
    ·rename_i cs o hb
     obtain⟨g,b,rfl,hc⟩:=behind_spec hs hr hb
     obtain⟨u,hu,hru⟩:=run_loadVar' (P:=P) h2 hc
     have e:tmps.getD a undef=.pointer (some ⟨g,b+o,none⟩):=by simp[Array.getD_eq_getD_getElem?,hv]
     refine⟨u::vs,?_,VRs.cons hru hrs⟩
     rw[List.mapM_cons]
     have e1:(readRes tmps (.cell a t)).run P W=.ok u W:=by
      show (do loadVar t (←asAddr (tmps.getD a undef)):Sem Value).run P W=_
      rw[e]
      simp only[asAddr,Sem.run_bind,Sem.run_pure,Result.andThen_ok,hu]
     simp only[Sem.run_bind,e1,Sem.run_pure,Result.andThen_ok,hvs]
    ·cases h2
   ·cases h
  ·cases h
theorem results_run {P:Program} {W:World} {C:Cx} {S:List Ob} (hs:SR W C S) {act:List D} {fn:Func} {tmps:Array Value} (hA:VRs W C act tmps.toList) {ds:List D} (h:resD P act S fn.results.toList=some ds):
  ∃v,(results fn tmps).run P W=.ok v W∧VR W C (tupD ds) v:=by
 obtain⟨vs,hvs,hrs⟩:=res_run (P:=P) hs hA h
 have e:(results fn tmps).run P W=.ok (if h:vs.toArray.size=1 then vs.toArray[0] else .tuple vs.toArray) W:=by
  unfold results
  rw[Array.mapM_eq_mapM_toList]
  change (do let vs ←List.toArray <$> fn.results.toList.mapM (readRes tmps);pure (if h:vs.size=1 then vs[0] else .tuple vs):Sem Value).run P W=_
  simp only[Sem.run_bind,Sem.run_map,hvs,Result.andThen_ok,Sem.run_pure]
 rw[e]
 match ds,vs,hrs with
 | [d],[v],hrs=>exact⟨v,rfl,hrs.head⟩
 | [],[],hrs=>exact⟨.tuple #[],rfl,VR.tup_of hrs⟩
 |d::e::l,u::v::m,hrs=>exact⟨.tuple (u::v::m).toArray,by simp,VR.tup_of hrs⟩
 | [],_::_,hrs=>have:=hrs.1;simp at this
 | [_],[],hrs=>have:=hrs.1;simp at this
 | [_],_::_::_,hrs=>have:=hrs.1;simp at this
 |_::_::_,[],hrs=>have:=hrs.1;simp at this
 |_::_::_,[_],hrs=>have:=hrs.1;simp at this
theorem VRs.replicate {W:World} {C:Cx} {d:D} {v:Value} (h:VR W C d v) (n:Nat):VRs W C (List.replicate n d) (List.replicate n v):=by
 induction n with
 |zero=>exact VRs.nil
 |succ n ih=>exact VRs.cons h ih
theorem dcall_ok {E:Env} (hE:EnvOk E):∀n,CallOk E (dcall E n)
 |0=>fun f args S d S' h=>by simp[dcall]at h
 |n+1=>by
  intro f args S d S' h W C vargs hs hP hG hv
  have ih:=dcall_ok hE n
  unfold dcall at h
  split at h
  ·cases h
  ·rename_i hmode
   split at h
   ·rename_i p hp
    exact hE.prims f p hp args S d S' h W C vargs hs hP hG hv
   split at h
   ·rename_i fn hf
    split at h
    ·rename_i c hb
     have hlen:args.length=vargs.size:=by have:=hv.1;simpa using this
     have hst:St E W C S (args++List.replicate (fn.ntmps-args.length) (.tup [])) { tmps:=vargs++Array.replicate (fn.ntmps-vargs.size) undef,defers:=[] }:=by
      refine⟨hs,hP,hG,⟨?_,rfl⟩⟩
      rw[Array.toList_append,Array.toList_replicate,hlen]
      exact hv.append (VRs.replicate undef_vr _)
     refine⟨⟨fn,hf,by rw[hb];rfl⟩,calls_of_wp hf hb ?_⟩
     have fin:∀ {e:DX} {act':List D} {S1:List Ob},codeD E (dcall E n) n c (args++List.replicate (fn.ntmps-args.length) (.tup [])) S=some (e,act',S1)→e=.normal∨e=.ret→(resD E.P act' S1 fn.results.toList).map (fun ds=>(tupD ds,S1))=some (d,S')→
       c.wp E.P (bodyPost E.P fn fun e W'=>∃v C',e=.returned v∧VR W' C' d v∧SR W' C' S'∧Fr W C S W' C' S') { tmps:=vargs++Array.replicate (fn.ntmps-vargs.size) undef,defers:=[] } W:=by
      intro e act' S1 hcode he hres
      obtain⟨ds,hds,heq⟩:=Option.map_eq_some_iff.1 hres
      cases heq
      refine code_wp hE ih c (hE.lin f fn c hf hb hmode) hst hcode (fun a' W' C' hs' hf'=>?_)
      obtain⟨v,hr,hrv⟩:=results_run (P:=E.P) hs'.sr hs'.a.vals hds
      rcases he with rfl |rfl
      ·exact⟨hs'.a.defers,v,hr,v,C',rfl,hrv,hs'.sr,hf'⟩
      ·exact⟨hs'.a.defers,v,hr,v,C',rfl,hrv,hs'.sr,hf'⟩
     cases hcode:codeD E (dcall E n) n c (args++List.replicate (fn.ntmps-args.length) (.tup [])) S with
     |none=>rw[hcode]at h;cases h
     |some r=>
      obtain⟨e,act',S1⟩:=r
      rw[hcode]at h
      cases e with
      |normal=>exact fin hcode (.inl rfl) h
      |exit id=>cases h
      |ret=>exact fin hcode (.inr rfl) h
    ·cases h
   ·cases h
theorem calls_of_dcall {E:Env} (hE:EnvOk E) {n:Nat} {f:FuncId} {args:List D} {d:D} {T:List Ob} (h:dcall E n f args []=some (d,T)) {W:World} {I:Nat→Prop} {vargs:Array Value} (hI:∀g,I g→g<W.heap.size)
  (hG:GR W ⟨E.P,fun _=>none,I⟩ E.G) (hv:VRs W ⟨E.P,fun _=>none,I⟩ args vargs.toList):
  Calls E.P f vargs W fun e W'=>∃v C',e=.returned v∧VR W' C' d v∧Below W.heap.size W W':=by
 have hs0:SR W ⟨E.P,fun _=>none,I⟩ []:=⟨fun k ob hk=>(by simp at hk),fun k x hx=>(by cases hx),fun k k' ob ob' x x' hk=>(by simp at hk),hI⟩
 refine (dcall_ok hE n f args [] d T h W _ vargs hs0 rfl hG hv).2.mono ?_
 rintro e W' ⟨v,C',rfl,hr,hs,hf⟩
 refine⟨v,C',rfl,hr,⟨hf.os,hf.tape,hf.output,hf.size,fun k hk=>hf.keep k hk ?_⟩⟩
 rintro⟨i,o,s,t,T',h1,-⟩
 simp at h1
theorem true_of_dcall {E:Env} (hE:EnvOk E) {n:Nat} {f:FuncId} {args:List D} {T:List Ob} (h:dcall E n f args []=some (.bool true,T)) {W:World} {I:Nat→Prop} {vargs:Array Value} (hI:∀g,I g→g<W.heap.size)
  (hG:GR W ⟨E.P,fun _=>none,I⟩ E.G) (hv:VRs W ⟨E.P,fun _=>none,I⟩ args vargs.toList):
  Calls E.P f vargs W fun e W'=>e=.returned (.bool true)∧Below W.heap.size W W':=by
 refine (calls_of_dcall hE h hI hG hv).mono ?_
 rintro e W' ⟨v,C',rfl,hr,hb⟩
 cases hr
 exact⟨rfl,hb⟩
end Go.Proofs.YtkemehicndccmaaGreatDoor.Dm
namespace Go.Proofs.YtkemehicndccmaaGreatDoor.Dm
open Go Go.RowKit

inductive TC (P:Program):TypeId→List D→Prop where
 |bool {t:TypeId} (ht:P.underlying t=some .bool) (b:Bool):TC P t [.bool b]
 |int {t:TypeId} {k:IntKind} {n:Int} (ht:P.underlying t=some (.int k)) (hw:(Lit.int k n).wf=true):TC P t [.int k n]
 |str {t:TypeId} {s:ByteArray} (ht:P.underlying t=some .string) (hs:s.size≤maxLen):TC P t [.str s]
 |nils {t e:TypeId} (ht:P.underlying t=some (.slice e)):TC P t [.nils]
 |sl {t e:TypeId} {es:List (List D)} {x:Bool} (ht:P.underlying t=some (.slice e)) (hl:es.length≤maxLen) (hes:∀(j:Nat) (c:List D),es[j]? =some c→TC P e c):TC P t [.sl (P.cellsOf e) es x]
 |struct {t:TypeId} {fs:Array Field} {cs:List D} (ht:P.underlying t=some (.struct fs)) (hl:cs.length=P.cellsOf t) (hf:∀f∈fs.toList,TC P f.type ((cs.drop f.offset).take (P.cellsOf f.type))):TC P t cs
 |array {t e:TypeId} {n:Nat} {cs:List D} (ht:P.underlying t=some (.array n e)) (hl:cs.length=P.cellsOf t) (hf:∀i,i<n→TC P e ((cs.drop (i*P.cellsOf e)).take (P.cellsOf e))):TC P t cs

def chainB (P:Program):Nat→List (TypeId×Nat)→Nat→Bool
 |o,[],tot=>o == tot
 |o,p::l,tot=>p.2 == o && chainB P (o+P.cellsOf p.1) l tot
def plainTs (P:Program) (ts:List TypeId):Bool:=
 ts.all fun t=>match P.underlying t with
  |some .bool |some (.int _) |some .string=>true
  |some (.slice e)=>ts.contains e && decide (0<P.cellsOf e)
  |some (.struct fs)=>fs.toList.all (fun f=>ts.contains f.type) && chainB P 0 (fs.toList.map fun f=>(f.type,f.offset)) (P.cellsOf t)
  |some (.array n e)=>ts.contains e && chainB P 0 ((List.range n).map fun i=>(e,i*P.cellsOf e)) (P.cellsOf t)
  |_=>false

theorem pureL_app:∀ {a b:List D},pureL a=true→pureL b=true→pureL (a++b)=true
 | [],b,_,h=>h
 |d::a,b,h,k=>by
  rw[List.cons_append,pureL] at*
  rw[Bool.and_eq_true]at h ⊢
  exact⟨h.1,pureL_app h.2 k⟩
theorem chain_le {P:Program}:∀ {l:List (TypeId×Nat)} {o tot:Nat},chainB P o l tot=true→o≤tot∧∀p∈l,o≤p.2∧p.2+P.cellsOf p.1≤tot
 | [],o,tot,h=>by
  simp[chainB]at h
  exact⟨by omega,fun p hp=>by cases hp⟩
 |q::l,o,tot,h=>by
  simp only[chainB,Bool.and_eq_true,beq_iff_eq]at h
  obtain⟨i1,i2⟩:=chain_le h.2
  refine⟨by omega,fun p hp=>?_⟩
  rcases List.mem_cons.1 hp with rfl |hp
  ·omega
  ·have:=i2 p hp;omega

/-! ### How much a datum holds -/
mutual
def bulkD:D→Nat
 | .str s=>s.size+1
 | .sl _ es _=>bulkLL es+1
 | .agg cs=>bulkL cs
 |_=>1
def bulkL:List D→Nat
 | []=>0
 |d::l=>bulkD d+bulkL l
def bulkLL:List (List D)→Nat
 | []=>0
 |c::l=>bulkL c+bulkLL l
end
mutual
def bulkW {H:Type}:DataW H→Nat
 | .lit (.string b)=>b.length+1
 | .slice es _=>bulkWs es+1
 | .agg ps=>bulkWs ps
 |_=>1
def bulkWs {H:Type}:List (DataW H)→Nat
 | []=>0
 |d::l=>bulkW d+bulkWs l
end
theorem bulkL_app (a b:List D):bulkL (a++b)=bulkL a+bulkL b:=by
 induction a with
 |nil=>simp[bulkL]
 |cons d a ih=>simp only[List.cons_append,bulkL,ih];omega
theorem bulkWs_eq {H:Type} (l:List (DataW H)):bulkWs l=(l.map bulkW).sum:=by
 induction l with
 |nil=>rfl
 |cons d l ih=>simp only[bulkWs,List.map_cons,List.sum_cons,ih]
theorem bulkLL_le {H:Type}:∀ {es:List (List D)} {ys:List (DataW H)},es.length=ys.length→(∀(i:Nat) c y,es[i]? =some c→ys[i]? =some y→bulkL c≤bulkW y)→bulkLL es≤bulkWs ys
 | [],[],_,_=>Nat.le_refl _
 |c::es,y::ys,hl,h=>by
  have h0:=h 0 c y rfl rfl
  have:=bulkLL_le (es:=es) (ys:=ys) (by simpa using hl) (fun i c y h1 h2=>h (i+1) c y (by simpa using h1) (by simpa using h2))
  simp only[bulkLL,bulkWs];omega
 | [],_::_,hl,_=>by simp at hl
 |_::_,[],hl,_=>by simp at hl

section
variable {H : Type} {enc : TypeId × Value → H} {P : Program} {W : World} {spare : Nat → Bool} {held : Bool} {I : Nat → Prop}
def Cells (P:Program) (W:World) (I:Nat→Prop) (t:TypeId) (cs:List Value) (B:Nat):Prop:=∃ds:List D,TC P t ds∧VRs W ⟨P,fun _=>none,I⟩ ds cs∧pureL ds=true∧ds.all D.one=true∧bulkL ds≤B

theorem cells_chain:∀ {l:List (TypeId×Nat)} {o tot:Nat} {cs:List Value} {bs:List Nat},chainB P o l tot=true→cs.length=tot→l.length≤bs.length→(∀(i:Nat) p b,l[i]? =some p→bs[i]? =some b→Cells P W I p.1 ((cs.drop p.2).take (P.cellsOf p.1)) b)→
  ∃ds:List D,ds.length=tot-o∧VRs W ⟨P,fun _=>none,I⟩ ds (cs.drop o)∧pureL ds=true∧ds.all D.one=true∧(∀p∈l,TC P p.1 ((ds.drop (p.2-o)).take (P.cellsOf p.1)))∧bulkL ds≤bs.sum
 | [],o,tot,cs,bs,h,hc,_,_=>by
  simp[chainB]at h
  refine⟨[],by simp;omega,?_,rfl,rfl,(fun p hp=>by cases hp),Nat.zero_le _⟩
  rw[List.drop_eq_nil_of_le (by omega)]
  exact VRs.nil
 |q::l,o,tot,cs,[],h,hc,hb,hp=>by simp at hb
 |q::l,o,tot,cs,b::bs,h,hc,hb,hp=>by
  have hle:=chain_le h
  simp only[chainB,Bool.and_eq_true,beq_iff_eq]at h
  obtain⟨rfl,h⟩:=h
  obtain⟨d0,t0,v0,p0,o0,b0⟩:=hp 0 q b rfl rfl
  obtain⟨ds,hl,hv,hpu,ho,ht,hbd⟩:=cells_chain (bs:=bs) h hc (by simpa using hb) (fun i p b h1 h2=>hp (i+1) p b (by simpa using h1) (by simpa using h2))
  have hq:=(hle.2 q (List.mem_cons.2 (.inl rfl))).2
  have hd0:d0.length=P.cellsOf q.1:=by
   rw[v0.1,List.length_take,List.length_drop];omega
  refine⟨d0++ds,by rw[List.length_append,hl,hd0];omega,?_,pureL_app p0 hpu,by rw[List.all_append,o0,ho];rfl,fun p hp'=>?_,by rw[bulkL_app,List.sum_cons];omega⟩
  ·have e:cs.drop q.2=(cs.drop q.2).take (P.cellsOf q.1)++cs.drop (q.2+P.cellsOf q.1):=by
    rw[←List.drop_drop,List.take_append_drop]
   rw[e]
   exact v0.append hv
  ·rcases List.mem_cons.1 hp' with rfl |hp'
   ·rw[Nat.sub_self,List.drop_zero,List.take_append_of_le_length (by omega),List.take_of_length_le (by omega)]
    exact t0
   ·have h1:=(chain_le h).2 p hp'
    have e:(d0++ds).drop (p.2-q.2)=ds.drop (p.2-(q.2+P.cellsOf q.1)):=by
     rw[List.drop_append,List.drop_eq_nil_of_le (by omega),List.nil_append]
     congr 1
     omega
    rw[e]
    exact ht p hp'
theorem some_of_lt {α:Type} {l:List α} {i:Nat} (h:i<l.length):∃c,l[i]? =some c:=⟨l[i],List.getElem?_eq_getElem h⟩
theorem pureLL_of:∀ {l:List (List D)},(∀c∈l,pureL c=true)→pureLL l=true
 | [],_=>rfl
 |c::l,h=>by
  rw[pureLL,h c (List.mem_cons.2 (.inl rfl)),pureLL_of fun d hd=>h d (List.mem_cons.2 (.inr hd))]
  rfl
theorem choose_list {α:Type} {p:Nat→α→Prop}:∀n,(∀i,i<n→∃x,p i x)→∃l:List α,l.length=n∧∀i x,l[i]? =some x→p i x
 |0,_=>⟨[],rfl,fun i x h=>by simp at h⟩
 |n+1,h=>by
  obtain⟨l,hl,hp⟩:=choose_list n (fun i hi=>h i (by omega))
  obtain⟨x,hx⟩:=h n (by omega)
  refine⟨l++[x],by simp[hl],fun i y hy=>?_⟩
  by_cases hi:i<l.length
  ·rw[List.getElem?_append_left hi]at hy;exact hp i y hy
  ·rw[List.getElem?_append_right (by omega)]at hy
   have:i-l.length=0:=by
    by_cases h0:i-l.length=0
    ·exact h0
    ·rw[List.getElem?_eq_none (by simp;omega)]at hy;cases hy
   rw[this]at hy
   cases hy
   rw[show i=n by omega]
   exact hx
theorem cells_of_trod {ts:List TypeId} (hts:plainTs P ts=true) (hI:∀g,g<W.heap.size→I g):∀(n:Nat) (t:TypeId) (cs:List Value) (x:DataW H×List MemPlace),t∈ts→DataW.trod enc P W 0 spare held n t cs=some x→Cells P W I t cs (bulkW x.1):=by
 intro n
 induction n with
 |zero=>intro t cs x _ h;simp[DataW.trod]at h
 |succ n ih=>
  intro t cs x ht h
  have hp:=List.all_eq_true.1 hts t ht
  cases hu:P.underlying t with
  |none=>rw[hu]at hp;cases hp
  |some u=>
   rw[hu]at hp
   cases u with
   |bool=>
    obtain⟨b,rfl,rfl⟩:=DataW.trod_bool hu h
    exact⟨[.bool b],.bool hu b,VRs.cons (.bool b) VRs.nil,rfl,rfl,Nat.le_refl _⟩
   |int k=>
    obtain⟨m,rfl,rfl,hw⟩:=DataW.trod_int hu h
    exact⟨[.int k m],.int hu hw,VRs.cons (.int k m) VRs.nil,rfl,rfl,Nat.le_refl _⟩
   |string=>
    obtain⟨s,rfl,rfl,hs⟩:=DataW.trod_string hu h
    exact⟨[.str s],.str hu hs,VRs.cons (.str s) VRs.nil,rfl,rfl,Nat.le_of_eq (by simp[bulkL,bulkD,bulkW])⟩
   |slice e=>
    simp only[Bool.and_eq_true,List.contains_iff_mem,decide_eq_true_eq]at hp
    rcases DataW.trod_slice hu h with ⟨rfl,rfl⟩ | ⟨a,len,cap,elems,rest,m,hm,rfl,rfl,-,hlc,hcm,hel,hx,-,-⟩
    ·exact⟨[.nils],.nils hu,VRs.cons .nils VRs.nil,rfl,rfl,Nat.le_refl _⟩
    ·obtain rfl:n=m:=by omega
     by_cases h0:len=0
     ·subst h0
      exact⟨[.sl (P.cellsOf e) [] false],.sl hu (Nat.zero_le _) (fun j c hj=>by simp at hj),VRs.cons (.sl0 (fun h=>by cases h)) VRs.nil,rfl,rfl,by simp[bulkL,bulkD,bulkLL,bulkW]⟩
     ·have one:∀i,i<len→∃ds:List D,TC P e ds∧ds.length=P.cellsOf e∧pureL ds=true∧ds.all D.one=true∧(∃cs',W.cells? 0 (a.add (i*P.cellsOf e)) (P.cellsOf e)=some cs'∧VRs W ⟨P,fun _=>none,I⟩ ds cs')∧∀y,(elems.map (·.1))[i]? =some y→bulkL ds≤bulkW y:=by
       intro i hi
       have hk:=hx i hi
       rw[List.getElem?_eq_getElem (by omega)]at hk
       obtain⟨cs',h1,h2⟩:=Option.bind_eq_some_iff.1 hk
       obtain⟨ds,d1,d2,d3,d4,d5⟩:=ih e cs' _ hp.1 h2
       exact⟨ds,d1,d2.1.trans (World.cells?_some h1).2.1,d3,d4,⟨cs',h1,d2⟩,fun y hy=>by
        rw[List.getElem?_map,List.getElem?_eq_getElem (by omega)]at hy
        obtain rfl:=Option.some.inj hy
        exact d5⟩
      obtain⟨es,hes,hE⟩:=choose_list len one
      have spot:a.spot=none:=by
       obtain⟨ds,-,-,-,-,⟨cs',hc,-⟩,-⟩:=one 0 (by omega)
       have h1:=(World.cells?_some hc).2.2 0 hp.2
       have hl:=(World.cells?_some hc).2.1
       rw[List.getElem?_eq_getElem (by omega)]at h1
       simp only[Nat.zero_mul,Addr.add,if_true,World.cell?]at h1
       split at h1
       ·cases hs:a.spot with
        |none=>rfl
        |some s=>rw[hs]at h1;simp at h1
       ·cases h1
      obtain⟨g,b,s⟩:=a
      simp only at spot
      subst spot
      have addr:∀i j (cs':List Value),W.cells? 0 ((⟨g,b,none⟩:Addr).add (i*P.cellsOf e)) (P.cellsOf e)=some cs'→j<P.cellsOf e→∃v,cs'[j]? =some v∧W.cell? ⟨g,b+(i*P.cellsOf e+j),none⟩=some v:=by
       intro i j cs' hc hj
       obtain⟨v,hv⟩:=some_of_lt (l:=cs') (i:=j) (by rw[(World.cells?_some hc).2.1];exact hj)
       refine⟨v,hv,?_⟩
       have h1:=(World.cells?_some hc).2.2 j hj
       rw[hv]at h1
       rw[←h1]
       congr 1
       unfold Addr.add
       split <;> split <;> simp_all <;> omega
      have hg:g<W.heap.size:=by
       obtain⟨c,hc0⟩:=some_of_lt (l:=es) (i:=0) (by omega)
       obtain⟨-,-,-,-,⟨cs',hc,-⟩,-⟩:=hE 0 c hc0
       obtain⟨v,-,h1⟩:=addr 0 0 cs' hc hp.2
       exact World.block_lt_of_cell? W _ h1
      refine⟨[.sl (P.cellsOf e) es false],.sl hu (by omega) (fun j c hj=>(hE j c hj).1),VRs.cons ?_ VRs.nil,?_,rfl,by
       have:=bulkLL_le (es:=es) (ys:=elems.map (·.1)) (by simp;omega) (fun i c y h1 h2=>(hE i c h1).2.2.2.2.2 y h2)
       simp only[bulkL,bulkD,bulkW];omega⟩
      ·rw[←hes]
       refine .sl (fun i j=>(((W.cells? 0 ((⟨g,b,none⟩:Addr).add (i*P.cellsOf e)) (P.cellsOf e))).getD [])[j]?.getD undef) (by omega) (hI g hg) (by omega) (fun h=>by cases h) (fun i c hc=>(hE i c hc).2.1) ?_ ?_ ?_
       ·intro i j hi hj
        obtain⟨c,hc0⟩:=some_of_lt hi
        obtain⟨-,-,-,-,⟨cs',hc,-⟩,-⟩:=hE i c hc0
        obtain⟨v,h1,h2⟩:=addr i j cs' hc hj
        rw[h2,hc,Option.getD_some,h1]
        rfl
       ·intro i j c d hi hj
        exact List.all_eq_true.1 (hE i c hi).2.2.2.1 d (List.mem_of_getElem? hj)
       ·intro i j c d hi hj
        obtain⟨-,-,-,-,⟨cs',hc,hv⟩,-⟩:=hE i c hi
        obtain⟨v,h1,h2⟩:=hv.get hj
        rw[hc,Option.getD_some,h1]
        exact h2
      ·rw[pureL,D.pure,pureL,Bool.and_true]
       exact pureLL_of fun c hc=>by
        obtain⟨i,hi⟩:=List.mem_iff_getElem?.1 hc
        exact (hE i c hi).2.2.1
   |struct fs=>
    simp only[Bool.and_eq_true]at hp
    obtain⟨xs,m,hm,rfl,hl,hxl,hx⟩:=DataW.trod_struct hu h
    obtain rfl:n=m:=by omega
    obtain⟨ds,d1,d2,d3,d4,d5,d6⟩:=cells_chain (W:=W) (I:=I) (bs:=xs.map fun y=>bulkW y.1) hp.2 hl (by simp;omega) (fun i p b hp' hb=>by
     rw[List.getElem?_map]at hp' hb
     obtain⟨f,hi,rfl⟩:=Option.map_eq_some_iff.1 hp'
     obtain⟨y,hy,rfl⟩:=Option.map_eq_some_iff.1 hb
     have hf:=List.mem_of_getElem? hi
     have:=hx i f (by simpa using hi)
     rw[hy]at this
     exact ih _ _ _ (by simpa using List.all_eq_true.1 hp.1 f hf) this)
    refine⟨ds,.struct hu (by omega) (fun f hf=>?_),by simpa using d2,d3,d4,by rw[bulkW,bulkWs_eq,List.map_map];exact d6⟩
    simpa using d5 (f.type,f.offset) (List.mem_map.2 ⟨f,hf,rfl⟩)
   |array k e=>
    simp only[Bool.and_eq_true,List.contains_iff_mem]at hp
    rw[DataW.trod_step]at h
    unfold DataW.trodStep at h
    rw[hu]at h
    simp only at h
    split at h
    ·rename_i hl
     obtain⟨xs,hxs,rfl⟩:=Option.map_eq_some_iff.1 h
     have hxl:=mapM_some_length hxs
     obtain⟨ds,d1,d2,d3,d4,d5,d6⟩:=cells_chain (W:=W) (I:=I) (bs:=xs.map fun y=>bulkW y.1) hp.2 hl (by simp at hxl ⊢;omega) (fun i p b hp' hb=>by
      rw[List.getElem?_map]at hp' hb
      obtain⟨j,hi,rfl⟩:=Option.map_eq_some_iff.1 hp'
      obtain⟨y,hy,rfl⟩:=Option.map_eq_some_iff.1 hb
      have:=mapM_some_get hxs i j hi
      rw[hy]at this
      exact ih _ _ _ hp.1 this)
     refine⟨ds,.array hu (by omega) (fun i hi=>?_),by simpa using d2,d3,d4,by rw[bulkW,bulkWs_eq,List.map_map];exact d6⟩
     simpa using d5 (e,i*P.cellsOf e) (List.mem_map.2 ⟨i,List.mem_range.2 hi,rfl⟩)
    ·cases h
   |_=>cases hp

def TV (P:Program) (t:TypeId) (d:D):Prop:=(aggT P t=some true∧∃ds,d=.agg ds∧TC P t ds)∨(aggT P t=some false∧TC P t [d])
theorem arg_of_trodB {ts:List TypeId} (hts:plainTs P ts=true) (hI:∀g,g<W.heap.size→I g) {r:Reach} {base:Nat} {t:TypeId} {v:Value} {d:DataW H} {ps:List MemPlace} (ht:t∈ts) (hv:Value.okWide P W r base t v) (h:DataW.Trod enc P W 0 spare held t v d ps):
  ∃x,TV P t x∧VR W ⟨P,fun _=>none,I⟩ x v∧x.pure=true∧bulkD x≤bulkW d:=by
 obtain⟨n,hn⟩:=h
 obtain⟨ds,h1,h2,h3,h4,h5⟩:=cells_of_trod hts hI n t _ _ ht hn
 by_cases hag:aggT P t=some true
 ·have:∃cs,v=.agg cs:=by
   unfold Value.okWide at hv
   unfold aggT at hag
   cases hu:P.underlying t with
   |none=>rw[hu]at hag;cases hag
   |some u=>
    rw[hu]at hv hag
    cases u <;> first | (cases hag;done) | (obtain⟨cs,h,-⟩:=hv;exact⟨cs,h⟩)
  obtain⟨cs,rfl⟩:=this
  have:=VR.agg_of h2
  exact⟨.agg ds,.inl ⟨hag,ds,rfl,h1⟩,by simpa [Value.cells] using this,by rw[D.pure];exact h3,by rw[bulkD];exact h5⟩
 ·have hag':aggT P t=some false:=by
   have hp:=List.all_eq_true.1 hts t ht
   unfold aggT at hag ⊢
   cases hu:P.underlying t with
   |none=>rw[hu]at hp;cases hp
   |some u=>
    rw[hu]at hp hag
    cases u <;> first |rfl | (cases hp;done) |exact absurd rfl hag
  have one:∃d,ds=[d]:=by
   cases h1 with
   |struct ht' _ _=>rw[aggT,ht']at hag';cases hag'
   |array ht' _ _=>rw[aggT,ht']at hag';cases hag'
   |_=>exact⟨_,rfl⟩
  obtain⟨d,rfl⟩:=one
  have hone:v.cells.toList=[v]:=by
   have hl:=h2.1
   cases v with
   |agg cs=>
    exfalso
    unfold Value.okWide at hv
    unfold aggT at hag'
    have hp:=List.all_eq_true.1 hts t ht
    cases hu:P.underlying t with
    |none=>rw[hu]at hp;cases hp
    |some u=>
     rw[hu]at hp hv hag'
     cases u <;> first | (cases hp;done) | (cases hag';done) |skip
     all_goals simp[Cell.okWide,Cell.ok,hu]at hv
   |_=>rfl
  rw[hone]at h2
  exact⟨d,.inr ⟨hag',h1⟩,h2.head,by rw[pureL,Bool.and_eq_true]at h3;exact h3.1,by simpa [bulkL] using h5⟩
inductive TVs (P:Program):List TypeId→List D→Prop where
 |nil:TVs P [] []
 |cons {t:TypeId} {ts:List TypeId} {d:D} {ds:List D} (h:TV P t d) (hs:TVs P ts ds):TVs P (t::ts) (d::ds)
theorem args_of_trodB {ts:List TypeId} (hts:plainTs P ts=true) (hI:∀g,g<W.heap.size→I g) {r:Reach} {base:Nat}:∀ {us:List TypeId} {vs:List Value} {ds:List (DataW H)} {ps:List MemPlace},(∀t∈us,t∈ts)→(∀(j:Nat) t v,us[j]? =some t→vs[j]? =some v→Value.okWide P W r base t v)→DataW.TrodAll enc P W 0 spare held us vs ds ps→
  ∃xs,TVs P us xs∧VRs W ⟨P,fun _=>none,I⟩ xs vs∧pureL xs=true∧bulkL xs≤bulkWs ds
 | [],[],[],_,_,_,_=>⟨[],.nil,VRs.nil,rfl,Nat.le_refl _⟩
 |t::us,v::vs,d::ds,ps,hus,hv,⟨p,q,h1,h2,e⟩=>by
  obtain⟨x,a1,a2,a3,a4⟩:=arg_of_trodB hts hI (hus t (List.mem_cons.2 (.inl rfl))) (hv 0 t v rfl rfl) h1
  obtain⟨xs,b1,b2,b3,b4⟩:=args_of_trodB hts hI (us:=us) (vs:=vs) (fun t h=>hus t (List.mem_cons.2 (.inr h))) (fun j t v h k=>hv (j+1) t v (by simpa using h) (by simpa using k)) h2
  exact⟨x::xs,.cons a1 b1,VRs.cons a2 b2,by rw[pureL,a3,b3];rfl,by simp only[bulkL,bulkWs];omega⟩
theorem stay_all (hl:laidOutB P=true) {W':World} (hb:Below W.heap.size W W'):∀ {us:List TypeId} {vs:List Value} {ds:List (DataW H)} {ps:List MemPlace},us.all (fun t=>P.readableRec t && decide (t<P.types.size))=true→DataW.TrodAll enc P W 0 (fun _=>true) true us vs ds ps→(∀x∈ps,x.block<W.heap.size)→
  DataW.TrodAll enc P W' 0 (fun b=>decide (b<W.heap.size)) true us vs ds ps
 | [],[],[],_,_,h,_=>h
 |t::us,v::vs,d::ds,ps,hr,⟨p,q,h1,h2,e⟩,hlt=>by
  rw[List.all_cons,Bool.and_eq_true,Bool.and_eq_true,decide_eq_true_eq]at hr
  subst e
  exact⟨p,q,Below.trod hl hr.1.1 hr.1.2 h1 hb (fun x hx=>hlt x (List.mem_append_left _ hx)),stay_all hl hb hr.2 h2 (fun x hx=>hlt x (List.mem_append_right _ hx)),rfl⟩
end
end Go.Proofs.YtkemehicndccmaaGreatDoor.Dm
