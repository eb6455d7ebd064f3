/-
  The machine's operators, conversions, literals and new objects: each is what the model does.
  The machine's composite literals and new objects: each is what the model does.
-/
import Derived.Test.YtaklebjoenophaaGreatDmB
import Derived.Laws.MakeOwn
import Derived.Laws.BytesString
set_option linter.unusedSimpArgs false
set_option linter.unusedVariables false
namespace Go.Proofs.YtaklebjoenophaaGreat.Dm
open Go Go.RowKit
section
variable {P : Program} {W : World} {C : Cx} {S : List Ob}
theorem run_dInt {op:BinOp} {k:IntKind} {a b:Int} {d:D} (h:dInt op k a b=some d) (t:TypeId) (hop:op≠.shl/\op≠.shr):∃u,(binOp op t (.int k a) (.int k b)).run P W=.ok u W/\VR W C d u:=by
 cases op <;> simp only[dInt,Uw,reduceCtorEq]at h <;> try (subst h)
 case quo=>
  split at h
  ·cases h
  ·rename_i hb;cases h;refine⟨_,?_,.int _ _⟩;simp[binOp,Op.intDiv,hb]
 case rem=>
  split at h
  ·cases h
  ·rename_i hb;cases h;refine⟨_,?_,.int _ _⟩;simp[binOp,Op.intDiv,hb]
 all_goals first
  | (refine⟨_,?_,.int _ _⟩;simp[binOp,Op.intArith];done)
  | (refine⟨_,?_,.int _ _⟩;simp[binOp,Op.intBits];done)
  | (refine⟨_,?_,.int _ _⟩;simp[binOp,Op.intBits];rfl)
  | (refine⟨_,?_,.bool _⟩;simp[binOp,Op.intCmp];done)
  | (refine⟨_,?_,.bool _⟩;simp[binOp,Op.intCmp];rfl)
theorem run_dShift {op:BinOp} {k k':IntKind} {a b:Int} {d:D} (h:dShift op k a b=some d) (t:TypeId):∃u,(Op.shift op k a k' b).run P W=.ok u W/\VR W C d u:=by
 unfold dShift at h
 split at h
 ·cases h
 ·rename_i hb
  cases op <;> simp only[Uw,reduceCtorEq]at h
  all_goals
   subst h
   refine⟨_,?_,.int _ _⟩
   simp[Op.shift,hb]
theorem run_dStr {op:BinOp} {a b:ByteArray} {d:D} (h:dStr op a b=some d) (t:TypeId):∃u,(binOp op t (.string a) (.string b)).run P W=.ok u W/\VR W C d u:=by
 cases op <;> simp only[dStr,Uw,reduceCtorEq]at h <;> try (subst h)
 case add=>
  split at h
  ·cases h
  ·rename_i hl;cases h
   refine⟨_,?_,.str _⟩
   simp only[binOp,Op.stringOp,if_neg hl]
   rfl
 all_goals exact⟨_,by simp only[binOp,Op.stringOp];rfl,.bool _⟩
theorem guard_other {op:BinOp} (t:TypeId) (ox oy:Operand) {vx vy:Value} (h:∀a b,vx=.agg a->vy=.agg b->False) (h':vx=.nilIface->vy=.nilIface->False):(eqGuard op t ox oy vx vy).run P W=.ok () W:=by
 have key:(match vx,vy with
   | .nilIface,.nilIface=>(do
    if (ox matches .const _) || (oy matches .const _) then return
    if <-Op.eqGuardIn Op.maxDepth t vx vy then unsupported (.noEntry "binop/eql: two nil values of an interface type with methods, neither of them the literal nil"):Sem Unit)
   | .agg _,.agg _=>(do
    if !(<-program).eqGuardType (<-program).depth t then return
    if <-Op.eqGuardIn Op.maxDepth t vx vy then unsupported (.noEntry "binop/eql: two nil values of an interface type with methods, in a part of a struct or an array"):Sem Unit)
   |_,_=>pure ()).run P W=.ok () W:=by
  split
  ·exact (h' rfl rfl).elim
  ·exact (h _ _ rfl rfl).elim
  ·rfl
 unfold eqGuard
 split
 ·exact key
 ·exact key
 ·rfl
theorem dEq_not_nil {d:Nat} {t:TypeId} {x y:D} {b:Bool} {vx vy:Value} (h:dEq P d t x y=some b) (hx:VR W C x vx) (hy:VR W C y vy):¬(vx=.nilIface/\vy=.nilIface):=by
 rintro⟨rfl,rfl⟩
 cases d with
 |zero=>simp[dEq]at h
 |succ d=>
  cases hx <;> cases hy
  all_goals
   unfold dEq at h
   split at h <;> first | (cases h;done) |simp_all
theorem dEq_agg {d:Nat} {t:TypeId} {x y:D} {b:Bool} {u w:Array Value} (h:dEq P d t x y=some b) (hx:VR W C x (.agg u)) (hy:VR W C y (.agg w)):∃a c,x=.agg a/\y=.agg c:=by
 cases d with
 |zero=>simp[dEq]at h
 |succ d=>
  cases hx <;> cases hy
  case agg.agg=>exact⟨_,_,rfl,rfl⟩
  all_goals
   unfold dEq at h
   split at h <;> first | (cases h;done) |simp_all
theorem binOp_eql {t:TypeId} {vx vy:Value} {b:Bool} (h:(Op.equal t vx vy).run P W=.ok b W) (hi:∀k a k' a',vx=.int k a->vy=.int k' a'->False) (hs:∀a a',vx=.string a->vy=.string a'->False)
  (hf:∀k a k' a',vx=.float k a->vy=.float k' a'->False) (hc:∀k a b k' a' b',vx=.complex k a b->vy=.complex k' a' b'->False):(binOp .eql t vx vy).run P W=.ok (.bool b) W/\(binOp .neq t vx vy).run P W=.ok (.bool !b) W:=by
 unfold binOp
 constructor
 ·split <;> first | (rename_i e;cases e;done) | (exact (hi _ _ _ _ rfl rfl).elim) | (exact (hs _ _ rfl rfl).elim) | (exact (hf _ _ _ _ rfl rfl).elim) | (exact (hc _ _ _ _ _ _ rfl rfl).elim) |simp_all
 ·split <;> first | (rename_i e;cases e;done) | (exact (hi _ _ _ _ rfl rfl).elim) | (exact (hs _ _ rfl rfl).elim) | (exact (hf _ _ _ _ rfl rfl).elim) | (exact (hc _ _ _ _ _ _ rfl rfl).elim) |simp_all
theorem eq_case {t:TypeId} {x y:D} {vx vy:Value} {b:Bool} (ox oy:Operand) (h:dEq P 10000 t x y=some b) (hx:VR W C x vx) (hy:VR W C y vy) (hni:∀k a k' a',x=.int k a->y=.int k' a'->False) (hns:∀a a',x=.str a->y=.str a'->False)
  (hag:∀a c,x=.agg a->y=.agg c->plainEqT P t=true):
  (∀op,(eqGuard op t ox oy vx vy).run P W=.ok () W)/\(binOp .eql t vx vy).run P W=.ok (.bool b) W/\(binOp .neq t vx vy).run P W=.ok (.bool !b) W:=by
 have hr:=run_dEq (W:=W) (C:=C) h hx hy
 refine⟨λop=>?_,binOp_eql hr ?_ ?_ ?_ ?_⟩
 ·by_cases hA:∃a c,vx=.agg a/\vy=.agg c
  ·obtain⟨a,c,rfl,rfl⟩:=hA
   obtain⟨a',c',rfl,rfl⟩:=dEq_agg h hx hy
   have hp:=hag _ _ rfl rfl
   unfold plainEqT at hp
   unfold eqGuard
   split
   ·simp only[Bool.not_true,Ui,if_false,Sem.run_bind,run_program,Result.andThen_ok]
    rw[if_pos hp];rfl
   ·simp only[Bool.not_true,Ui,if_false,Sem.run_bind,run_program,Result.andThen_ok]
    rw[if_pos hp];rfl
   ·rfl
  ·exact guard_other t ox oy (λa c e1 e2=>hA ⟨a,c,e1,e2⟩) (λe1 e2=>dEq_not_nil h hx hy ⟨e1,e2⟩)
 ·rintro k a k' a' rfl rfl
  cases hx with
  |int=>cases hy with
   |int=>exact hni _ _ _ _ rfl rfl
   |undef=>simp[dEq]at h
  |undef=>cases hy <;> simp[dEq]at h
 ·rintro a a' rfl rfl
  cases hx with
  |str=>cases hy with
   |str=>exact hns _ _ rfl rfl
   |undef=>simp[dEq]at h
  |undef=>cases hy <;> simp[dEq]at h
 ·rintro k a k' a' rfl rfl
  cases hx;cases hy;simp[dEq]at h
 ·rintro k a b k' a' b' rfl rfl
  cases hx;cases hy;simp[dEq]at h
theorem run_dBin {op:BinOp} {t:TypeId} {x y d:D} {vx vy:Value} (ox oy:Operand) (h:dBin P op t x y=some d) (hx:VR W C x vx) (hy:VR W C y vy):(eqGuard op t ox oy vx vy).run P W=.ok () W/\∃u,(binOp op t vx vy).run P W=.ok u W/\VR W C d u:=by
 unfold dBin at h
 split at h
 ·cases hx;cases hy
  refine⟨guard_other _ _ _ (λa b e=>by cases e) (λe=>by cases e),?_⟩
  obtain⟨u,hu,hr⟩:=run_dShift (P:=P) (W:=W) (C:=C) h t
  exact⟨u,by simp only[binOp];exact hu,hr⟩
 ·cases hx;cases hy
  refine⟨guard_other _ _ _ (λa b e=>by cases e) (λe=>by cases e),?_⟩
  obtain⟨u,hu,hr⟩:=run_dShift (P:=P) (W:=W) (C:=C) h t
  exact⟨u,by simp only[binOp];exact hu,hr⟩
 ·rename_i h1 h2
  cases hx;cases hy
  refine⟨guard_other _ _ _ (λa b e=>by cases e) (λe=>by cases e),?_⟩
  split at h
  ·rename_i hk;subst hk
   exact run_dInt h t ⟨h1,h2⟩
  ·cases h
 ·cases hx;cases hy
  exact⟨guard_other _ _ _ (λa b e=>by cases e) (λe=>by cases e),run_dStr h t⟩
 ·split at h
  ·rename_i hp
   obtain⟨b,hb,rfl⟩:=Ks.1 h
   have:=eq_case ox oy hb hx hy (λ_ _ _ _ e=>by cases e) (λ_ _ e=>by cases e) (λ_ _ _ _=>hp)
   exact⟨this.1 _,_,this.2.1,.bool _⟩
  ·cases h
 ·split at h
  ·rename_i hp
   obtain⟨b,hb,rfl⟩:=Ks.1 h
   have:=eq_case ox oy hb hx hy (λ_ _ _ _ e=>by cases e) (λ_ _ e=>by cases e) (λ_ _ _ _=>hp)
   exact⟨this.1 _,_,this.2.2,.bool _⟩
  ·cases h
 ·rename_i h1 h2 h3
  obtain⟨b,hb,rfl⟩:=Ks.1 h
  have:=eq_case ox oy hb hx hy (λk a k' a' e1 e2=>by first |exact h1 _ _ _ _ e1 e2 |exact h2 _ _ _ _ e1 e2 |exact h3 _ _ _ _ e1 e2) (λa a' e1 e2=>by first |exact h1 _ _ e1 e2 |exact h2 _ _ e1 e2 |exact h3 _ _ e1 e2) (λa c e1 e2=>by first |exact (h1 _ _ e1 e2).elim |exact (h2 _ _ e1 e2).elim |exact (h3 _ _ e1 e2).elim)
  exact⟨this.1 _,_,this.2.1,.bool _⟩
 ·rename_i h1 h2 h3
  obtain⟨b,hb,rfl⟩:=Ks.1 h
  have:=eq_case ox oy hb hx hy (λk a k' a' e1 e2=>by first |exact h1 _ _ _ _ e1 e2 |exact h2 _ _ _ _ e1 e2 |exact h3 _ _ _ _ e1 e2) (λa a' e1 e2=>by first |exact h1 _ _ e1 e2 |exact h2 _ _ e1 e2 |exact h3 _ _ e1 e2) (λa c e1 e2=>by first |exact (h1 _ _ e1 e2).elim |exact (h2 _ _ e1 e2).elim |exact (h3 _ _ e1 e2).elim)
  exact⟨this.1 _,_,this.2.2,.bool _⟩
 ·cases h
theorem run_dUn {op:UnOp} {x d:D} {v:Value} (h:dUn op x=some d) (hx:VR W C x v):∃u,(Op.unary op v).run P W=.ok u W/\VR W C d u:=by
 unfold dUn at h
 split at h
 ·cases h;cases hx;refine⟨_,?_,.int _ _⟩;simp[Op.unary,Op.intArith]
 ·rename_i k n
  cases hx
  simp only[dInt,Uw]at h
  subst h
  refine⟨_,?_,.int _ _⟩;simp[Op.unary,Op.intBits]
 ·cases h;cases hx;refine⟨_,?_,.bool _⟩;simp[Op.unary]
 ·cases h
theorem bytesOf_get:∀(es:List (List D)) (ns:List Int),bytesOf es=some ns->ns.length=es.length/\∀(j:Nat) (n:Int),ns[j]?=some n->es[j]?=some [.int .u8 n]
 | [],ns,h=>by
  cases h
  exact⟨rfl,λj n h=>by simp at h⟩
 |c::es,ns,h=>by
  unfold bytesOf at h
  split at h
  ·rename_i h';cases h'
  ·rename_i n es' h'
   cases h'
   obtain⟨ms,hm,e⟩:=Ks.1 h
   subst e
   obtain⟨i1,i2⟩:=bytesOf_get _ _ hm
   refine⟨by simp[i1],λj n' hj=>?_⟩
   cases j with
   |zero=>simp at hj;rw[hj];rfl
   |succ j=>simp at hj;simpa using i2 j n' hj
  ·cases h
theorem run_dConv {s t:TypeId} {x d:D} {v:Value} (h:dConv P s t x=some d) (hx:VR W C x v):∃u,(convert s t v).run P W=.ok u W/\VR W C d u:=by
 unfold dConv at h
 split at h
 ·rename_i ds k _ n h1 h2
  cases h;cases hx
  refine⟨_,?_,.int _ _⟩
  simp[convert,run_underlying h1,run_underlying h2,Conv.intToInt]
 ·rename_i ds s' h1 h2
  cases h;cases hx
  refine⟨_,?_,.str _⟩
  simp[convert,run_underlying h1,run_underlying h2]
 ·rename_i e c es x h1 h2
  split at h
  ·rename_i h3
   obtain⟨ns,hn,e'⟩:=Ks.1 h
   subst e'
   obtain⟨hl,hb⟩:=bytesOf_get _ _ hn
   cases hx with
   |sl vs hp hg hcap hx' hs hc ho hv=>
    rename_i g b cap
    refine⟨_,?_,.str _⟩
    rw[run_convert_bytes_string W s t e _ _ _ h1 h3 h2]
    refine run_bytesToString W _ _ _ ns ?_
    have:=run_loadCells_list (P:=P) W ⟨g,b,none⟩ (ns.map (Value.int .u8)) (λj v hj=>by
     rw[Vd]at hj
     obtain⟨n,hjn,rfl⟩:=Ks.1 hj
     have hjl:j<(c::es).length:=by rw[<-hl];exact (Kr.1 hjn).1
     have h4:=hb j n hjn
     have h5:=hc j 0 hjl (by omega)
     have h6:=hv j 0 _ _ h4 rfl
     rw[Nat.mul_one,Nat.add_zero]at h5
     generalize vs j 0=u at h5 h6
     cases h6
     rcases Nat.eq_zero_or_pos j with h0 |h0
     ·subst h0;simpa [Addr.add] using h5
     ·have:¬j=0:=by omega
      simpa [Addr.add,this] using h5)
    rw[Uq,hl]at this
    exact this
  ·cases h
 ·cases h
end
def PRs (W:World) (C:Cx) (ps:List (Nat×D)) (qs:List (Nat×Value)):Prop:=ps.length=qs.length/\∀(j:Nat) (p:Nat×D) (q:Nat×Value),ps[j]?=some p->qs[j]?=some q->p.1=q.1/\VR W C p.2 q.2
section
variable {P : Program} {W : World} {C : Cx} {S : List Ob}
theorem PRs.map {l:List (Nat×Operand)} {f:Operand->D} {g:Operand->Value} (h:∀x,VR W C (f x) (g x)):PRs W C (l.map λp=>(p.1,f p.2)) (l.map λp=>(p.1,g p.2)):=by
 refine⟨by simp,λj p q hp hq=>?_⟩
 rw[Vd]at hp hq
 cases hl:l[j]? with
 |none=>rw[hl]at hp;cases hp
 |some a=>rw[hl]at hp hq;cases hp;cases hq;exact⟨rfl,h _⟩
theorem PRs.tail {p:Nat×D} {ps:List (Nat×D)} {q:Nat×Value} {qs:List (Nat×Value)} (h:PRs W C (p::ps) (q::qs)):PRs W C ps qs:=⟨by simpa using h.1,λj a b ha hb=>h.2 (j+1) a b (by simpa using ha) (by simpa using hb)⟩
theorem setFold {ds:List D} {us:List Value} (h:VRs W C ds us):∀ {cs:List D} {vs:Array Value} {o k:Nat},VRs W C cs vs.toList->VRs W C (setFrom cs (o+k) ds) ((us.zipIdx k).foldl (λa (x:Value×Nat)=>a.setIfInBounds (o+x.2) x.1) vs).toList:=by
 induction ds generalizing us with
 |nil=>
  intro cs vs o k hc
  have:us=[]:=Ug (by simpa using h.1.symm)
  subst this
  exact hc
 |cons d ds ih=>
  intro cs vs o k hc
  cases us with
  |nil=>have:=h.1;simp at this
  |cons u us=>
   rw[setFrom,List.zipIdx_cons,List.foldl_cons]
   have:=ih h.tail (cs:=cs.set (o+k) d) (vs:=vs.setIfInBounds (o+k) u) (o:=o) (k:=k+1) (by simpa using hc.set (o+k) h.head)
   rw[show o+k+1=o+(k+1) by omega]
   exact this
theorem run_fill {pl pl':Nat->Option (Nat×Nat)} (hp:∀i x,pl i=some x->pl' i=some x):∀ {ps:List (Nat×D)} {qs:List (Nat×Value)} {cs cs':List D} {vs:Array Value},dFill pl cs ps=some cs'->VRs W C cs vs.toList->PRs W C ps qs->
  ∃vs',Instr.fill pl' vs qs=some vs'/\VRs W C cs' vs'.toList/\cs'.length=cs.length
 | [],qs,cs,cs',vs,h,hc,hq=>by
  simp[dFill]at h;subst h
  have:qs=[]:=Ug (by simpa using hq.1.symm)
  subst this
  exact⟨vs,rfl,hc,rfl⟩
 | (i,d)::ps,[],cs,cs',vs,h,hc,hq=>by have:=hq.1;simp at this
 | (i,d)::ps,(i',v)::qs,cs,cs',vs,h,hc,hq=>by
  obtain⟨e,hv⟩:=hq.2 0 _ _ rfl rfl
  dsimp only at e hv
  subst e
  unfold dFill at h
  split at h
  ·cases h
  ·rename_i off size hpl
   split at h
   ·rename_i hcond
    obtain⟨c1,c2,c3⟩:=hcond
    have hne:d≠.undef:=by rintro rfl;simp[D.cells,D.one]at c3
    have hcl:=hv.cells hne
    have hsz:v.cells.size=size:=by rw[<-c1,hcl.1];simp
    have hset:=setFold (o:=off) (k:=0) hcl hc
    simp only[Nat.add_zero]at hset
    obtain⟨vs',h1,h2,h3⟩:=run_fill hp h (vs:=v.cells.zipIdx.foldl (λa (x:Value×Nat)=>a.setIfInBounds (off+x.2) x.1) vs) (by rw[<-Array.foldl_toList,Array.toList_zipIdx];exact hset) hq.tail
    refine⟨vs',?_,h2,by rw[h3,setFrom_len]⟩
    unfold Instr.fill
    rw[hp _ _ hpl]
    have hb:off+v.cells.size<=vs.size:=by rw[hsz];have:=hc.1;simp at this;omega
    simp only[hsz,bne_self_eq_false,Bool.false_or]
    rw[if_neg (by simp;omega)]
    exact h1
   ·cases h
theorem run_mapM {α β:Type} {f:α->Sem β} {g:α->β}:∀ {l:List α},(∀x∈l,(f x).run P W=.ok (g x) W)->(l.mapM f).run P W=.ok (l.map g) W
 | [],_=>by simp
 |a::l,h=>by
  rw[List.mapM_cons]
  simp only[Sem.run_bind,h a (by simp),Result.andThen_ok,run_mapM (l:=l) (λx hx=>h x (by simp[hx])),Sem.run_pure,Uy]
theorem run_dBuild {t:TypeId} {ps:List (Nat×D)} {qs:Array (Nat×Value)} {d:D} (h:dBuild P t ps=some d) (hq:PRs W C ps qs.toList):∃u,(Instr.build t qs).run P W=.ok u W/\VR W C d u:=by
 unfold dBuild at h
 split at h
 ·rename_i z pls hz hpls
  obtain⟨zv,hzr,-,hzv⟩:=run_zero hz
  have hzc:=(Ju (W:=W) (C:=C) hzv).cells (fromVal_def hzv)
  obtain⟨cs',hf,rfl⟩:=Ks.1 h
  unfold placesT at hpls
  split at hpls
  ·rename_i fs hu
   split at hpls
   ·rename_i hall
    cases hpls
    have hpl:(fs.mapM λf=>do pure (f.offset,<-sizeOf f.type):Sem (Array (Nat×Nat))).run P W=.ok (fs.map λf=>(f.offset,(Yw P f.type).getD 0)) W:=by
     rw[Array.mapM_eq_mapM_toList]
     have:=run_mapM (P:=P) (W:=W) (f:=λf:Field=>(do pure (f.offset,<-sizeOf f.type):Sem (Nat×Nat))) (g:=λf:Field=>(f.offset,(Yw P f.type).getD 0)) (l:=fs.toList) (λf hf=>by
      have:=List.all_eq_true.1 hall f hf
      obtain⟨n,hn⟩:=Option.isSome_iff_exists.1 this
      simp[Jg hn,hn])
     simp only[Sem.run_map,this,Result.andThen_ok]
     congr 1
     apply Array.ext'
     simp
    obtain⟨vs',h1,h2,-⟩:=run_fill (W:=W) (C:=C) (pl':=λi=>(fs.map λf=>(f.offset,(Yw P f.type).getD 0))[i]?) (λi x hx=>by
     rw[Vd]at hx
     simpa using hx) hf hzc hq
    refine⟨.agg vs',?_,by simpa using VR.agg_of h2⟩
    simp only[Instr.build,Sem.run_bind,hzr,Result.andThen_ok,run_underlying hu,hpl,h1,Sem.run_pure]
   ·cases hpls
  ·rename_i n e hu
   split at hpls
   ·rename_i sz hsz
    cases hpls
    obtain⟨vs',h1,h2,-⟩:=run_fill (W:=W) (C:=C) (pl':=λi=>some (i*sz,sz)) (λi x hx=>by
     rw[Vd]at hx
     obtain⟨j,hj,rfl⟩:=Ks.1 hx
     have hjn:i<n:=by
      have:=(Kr.1 hj).1
      simpa using this
     rw[List.getElem?_range hjn]at hj
     cases hj;rfl) hf hzc hq
    refine⟨.agg vs',?_,by simpa using VR.agg_of h2⟩
    simp only[Instr.build,Sem.run_bind,hzr,Result.andThen_ok,run_underlying hu,Jg hsz,h1,Sem.run_pure]
   ·cases hpls
  ·cases hpls
 ·cases h
theorem reps_len (z:List D):∀n,(reps z n).length=n*z.length
 |0=>by simp[reps]
 |n+1=>by rw[reps,Ku,reps_len z n,Nat.succ_mul];omega
theorem reps_get (z:List D):∀(n p:Nat),p<n*z.length->(reps z n)[p]?=z[p % z.length]?
 |0,p,h=>by simp at h
 |n+1,p,h=>by
  rw[reps]
  by_cases hp:p<z.length
  ·rw[Ut hp,Nat.mod_eq_of_lt hp]
  ·rw[Vh (by omega),reps_get z n (p-z.length) (by rw[Nat.succ_mul]at h;omega)]
   congr 1
   rw[Nat.mod_eq_sub_mod (a:=p) (by omega)]
theorem chunks_len (n:Nat):∀(k:Nat) (l:List D),(chunks n k l).length=k
 |0,_=>rfl
 |k+1,l=>by rw[chunks,Uu,chunks_len n k]
theorem chunks_get (n:Nat):∀(k:Nat) (l:List D) (i:Nat) (e:List D),(chunks n k l)[i]?=some e->e=(l.drop (i*n)).take n/\i<k
 |0,l,i,e,h=>by simp[chunks]at h
 |k+1,l,0,e,h=>by simp[chunks]at h;simp[h]
 |k+1,l,i+1,e,h=>by
  rw[chunks,Ky]at h
  obtain⟨h1,h2⟩:=chunks_get n k (l.drop n) i e h
  exact⟨by rw[h1,List.drop_drop,Nat.succ_mul,Nat.add_comm],by omega⟩
theorem madeVR {z:List D} {vz:Array Value} (hz:VRs W C z vz.toList) (hpos:0<z.length) (n:Nat):VRs W C (reps z n) ((Array.range (n*z.length)).map (vz[· % vz.size]!)).toList:=by
 have hl:=hz.1
 simp only[Array.length_toList]at hl
 refine⟨by simp[reps_len],λp d v hd hv=>?_⟩
 have hp:p<n*z.length:=by rw[<-reps_len];exact (Kr.1 hd).1
 rw[reps_get z n p hp]at hd
 have hm:p % vz.size<vz.size:=Nat.mod_lt _ (by omega)
 have:v=vz[p % vz.size]! :=by
  simp[hp]at hv
  exact hv.symm
 subst this
 rw[hl]at hd
 refine hz.2 (p % vz.size) _ _ hd ?_
 simp[hm]
theorem setFrom_one:∀ {vs cs:List D} {o:Nat},(∀c∈cs,c.one=true)->(∀c∈vs,c.one=true)->∀c∈setFrom cs o vs,c.one=true
 | [],cs,o,h,_=>h
 |v::vs,cs,o,h,h'=>by
  rw[setFrom]
  refine setFrom_one (λc hc=>?_) (λc hc=>h' c (by simp[hc]))
  rcases List.mem_or_eq_of_mem_set hc with hc |rfl
  ·exact h c hc
  ·exact h' _ (by simp)
theorem dFill_one {pl:Nat->Option (Nat×Nat)}:∀ {ps:List (Nat×D)} {cs cs':List D},dFill pl cs ps=some cs'->(∀c∈cs,c.one=true)->∀c∈cs',c.one=true
 | [],cs,cs',h,h1=>by simp[dFill]at h;subst h;exact h1
 | (i,d)::ps,cs,cs',h,h1=>by
  unfold dFill at h
  split at h
  ·cases h
  ·split at h
   ·rename_i hc
    exact dFill_one h (setFrom_one h1 (all_one hc.2.2))
   ·cases h
theorem reps_one {z:List D} (h:∀c∈z,c.one=true):∀(n:Nat),∀c∈reps z n,c.one=true
 |0,c,hc=>by simp[reps]at hc
 |n+1,c,hc=>by
  rw[reps]at hc
  rcases List.mem_append.1 hc with hc |hc
  ·exact h c hc
  ·exact reps_one h n c hc
theorem run_dBuildSlice (hs:SR W C S) {t:TypeId} {len:Nat} {ps:List (Nat×D)} {qs:Array (Nat×Value)} {d:D} (h:dBuildSlice P t len ps=some d) (hq:PRs W C ps qs.toList):
  ∃u W',(Instr.buildSlice t len qs).run P W=.ok u W'/\VR W' (C.imm W.heap.size) d u/\SR W' (C.imm W.heap.size) S/\Fr W C S W' (C.imm W.heap.size) S:=by
 unfold dBuildSlice at h
 split at h
 ·rename_i e he
  have hu:P.underlying t=some (.slice e):=by
   unfold Ki at he;split at he
   ·cases he;assumption
   ·cases he
  split at h
  ·rename_i n z hsz hz
   rw[Nat.succ_eq_add_one]at hsz
   obtain⟨zv,hzr,-,hzv⟩:=run_zero hz
   have hzc:=(Ju (W:=W) (C:=C) hzv).cells (fromVal_def hzv)
   split at h
   ·rename_i hcond
    obtain⟨c1,c2,c3⟩:=hcond
    obtain⟨cs',hf,rfl⟩:=Ks.1 h
    have hlz:zv.cells.size=n+1:=by have:=hzc.1;simp at this;omega
    have hmade:=madeVR hzc (by omega) len
    rw[c2]at hmade
    obtain⟨vs',h1,h2,h3⟩:=run_fill (W:=W) (C:=C) (pl:=λi=>some (i*(n+1),n+1)) (pl':=λi=>some (i*(n+1),n+1)) (λi x hx=>hx) hf hmade hq
    have hlen:cs'.length=len*(n+1):=by rw[h3,reps_len,c2]
    have hvl:vs'.size=len*(n+1):=by have:=h2.1;simp at this;omega
    have himm:=hs.immNew (.cells vs' e)
    refine⟨.slice (some ⟨W.heap.size,0,none⟩) len len,W.alloc (.cells vs' e),?_,?_,himm.1,himm.2⟩
    ·simp only[Instr.buildSlice,Sem.run_bind,run_underlying hu,Result.andThen_ok,Jg hsz]
     rw[if_neg (by omega)]
     by_cases h0:len*(n+1)=0
     ·rw[h0,Array.range_zero']at h1
      simp only[List.map_toArray,List.map_nil]at h1
      simp[h0,Array.range_zero',newRow,h1]
     ·simp[h0,hzr,h1,newRow]
    ·have key:∀d v,VR W C d v->VR (W.alloc (.cells vs' e)) (C.imm W.heap.size) d v:=λd v hv=>himm.2.vr hs hv
     by_cases h0:len=0
     ·subst h0
      exact .sl0 (λ_=>rfl)
     ·have hg:∀i e',(chunks (n+1) len cs')[i]?=some e'->∀j,j<n+1->e'[j]?=cs'[i*(n+1)+j]? /\e'.length=n+1:=by
       intro i e' hi j hj
       obtain⟨rfl,hik⟩:=chunks_get _ _ _ _ _ hi
       have:i*(n+1)+(n+1)<=len*(n+1):=by rw[<-Nat.succ_mul];exact Va _ hik
       refine⟨by rw[List.getElem?_take,if_pos hj,List.getElem?_drop],by simp;omega⟩
      have hcl:=chunks_len (n+1) len cs'
      have:=VR.sl (W:=W.alloc (.cells vs' e)) (C:=C.imm W.heap.size) (sz:=n+1) (es:=chunks (n+1) len cs') (x:=true) (g:=W.heap.size) (b:=0) (cap:=len) (λi j=>vs'[i*(n+1)+j]?.getD undef) (by omega) (.inr rfl) (by omega) (λ_=>by omega)
       (λi e' hi=>(hg i e' hi 0 (by omega)).2) (λi j hi hj=>by
        rw[hcl]at hi
        have:i*(n+1)+j<vs'.size:=by rw[hvl];exact Jt hi hj
        rw[Nat.zero_add,cell_of_row _ W.heap.size (i*(n+1)+j) vs' e (0,0) (heap_alloc_new W _)]
        simp[this]) (λi j e' c hi hc=>by
        have hj:j<n+1:=by rw[<-(hg i e' hi 0 (by omega)).2];exact (Kr.1 hc).1
        rw[(hg i e' hi j hj).1]at hc
        exact dFill_one hf (reps_one (all_one c3) _) c (Kx hc)) (λi j e' c hi hc=>by
        have hj:j<n+1:=by rw[<-(hg i e' hi 0 (by omega)).2];exact (Kr.1 hc).1
        rw[(hg i e' hi j hj).1]at hc
        obtain⟨v,hv,hr⟩:=h2.get hc
        rw[Ul]at hv
        rw[hv]
        exact key _ _ hr)
      rw[hcl]at this
      exact this
   ·cases h
  ·cases h
 ·cases h
theorem run_newVar (hs:SR W C S) {t:TypeId} {d:D} {v:Value} (hv:VR W C d v) (h1:d.cells.all D.one=true):∃g W' C',(newVar t v).run P W=.ok g W'/\VR W' C' (.loc S.length 0 0) (.pointer (some g))/\SR W' C' (S++[.row d.cells.length [d.cells]])/\Fr W C S W' C' (S++[.row d.cells.length [d.cells]]):=by
 have hne:d≠.undef:=by rintro rfl;simp[D.cells,D.one]at h1
 have hcl:=hv.cells hne
 have hp:=hs.push (W':=W.alloc (.cells v.cells t)) (ob':=.row d.cells.length [d.cells]) (g:=W.heap.size) (sz:=d.cells.length) (tot:=d.cells.length) (T:=t) rfl rfl rfl (by simp) (λb hb=>Below.heap_alloc W _ b hb) (Uk _) (by simp) (λhm=>by
  refine⟨rfl,by simp,λi e he=>?_,v.cells,heap_alloc_new W _,by have:=hcl.1;simp at this;exact this.symm,λi j e c he hc=>?_⟩
  ·have:i=0:=by have:=(Kr.1 he).1;simp at this;exact this
   subst this
   cases he;rfl
  ·have:i=0:=by have:=(Kr.1 he).1;simp at this;exact this
   subst this
   cases he
   obtain⟨u,hu,hr⟩:=hcl.get hc
   rw[Ul]at hu
   exact⟨u,by simpa using hu,hm _ _ hr,all_one h1 c (Kx hc)⟩)
 refine⟨⟨W.heap.size,0,none⟩,_,_,?_,?_,hp.1,hp.2⟩
 ·simp[newVar,newRow]
 ·have:=VR.loc (W:=W.alloc (.cells v.cells t)) (C:=C.add S.length (W.heap.size,d.cells.length,d.cells.length,t)) (k:=S.length) (i:=0) (o:=0) (Cx.add_same _ _ _)
  simpa using this
theorem run_dMakeSlice (hs:SR W C S) {t:TypeId} {len cap:Int} {d:D} {S':List Ob} (h:dMakeSlice P S t len cap=some (d,S')):
  ∃u W' C',(Instr.makeSlice t (.int .i64 len) (.int .i64 cap)).run P W=.ok u W'/\VR W' C' d u/\SR W' C' S'/\Fr W C S W' C' S':=by
 unfold dMakeSlice at h
 split at h
 ·rename_i e he
  have hu:P.underlying t=some (.slice e):=by
   unfold Ki at he;split at he
   ·cases he;assumption
   ·cases he
  split at h
  ·rename_i n z hsz hz
   obtain⟨zv,hzr,⟨i,hi,hiz⟩,hzv⟩:=run_zero hz
   have hzc:=(Ju (W:=W) (C:=C) hzv).cells (fromVal_def hzv)
   split at h
   ·rename_i hcond
    obtain⟨c1,c2,c3,c4,c5,c6⟩:=hcond
    cases h
    have his:i.size=n+1:=by
     obtain⟨i',hi',h'⟩:=info_of_size hsz
     rw[hi]at hi';cases hi';exact h'
    have hby:Kl P e=i.bytes:=by simp[Kl,hi]
    rw[hby]at c3
    have hrun:=run_make (P:=P) W t e i zv hu hi hiz .i64 .i64 len cap c1 c2 (by omega) c4
    have hlz:zv.cells.size=n+1:=by have:=hzc.1;simp at this;omega
    have hp:=hs.push (W':=W.alloc (.cells (madeCells zv.cells (cap.toNat*i.size)) e)) (ob':=.row (n+1) (List.replicate cap.toNat z.cells)) (g:=W.heap.size) (sz:=n+1) (tot:=cap.toNat*(n+1)) (T:=e) rfl rfl rfl (by simp) (λb hb=>Below.heap_alloc W _ b hb) (Uk _) (by simp) (λhm=>by
     refine⟨rfl,by simp,λi e he=>?_,_,heap_alloc_new W _,by rw[size_madeCells,his],λk j e' c he hc=>?_⟩
     ·rw[List.getElem?_replicate]at he
      split at he
      ·cases he;exact c5
      ·cases he
     ·rw[List.getElem?_replicate]at he
      split at he
      ·rename_i hk
       cases he
       obtain⟨u,hu',hr⟩:=hzc.get hc
       have hj:j<n+1:=by rw[<-c5];exact (Kr.1 hc).1
       refine⟨u,?_,hm _ _ hr,all_one c6 c (Kx hc)⟩
       rw[Ul]at hu'
       have hlt:k*(n+1)+j<cap.toNat*i.size:=by rw[his];exact Jt hk hj
       have hmod:(k*(n+1)+j) % zv.cells.size=j:=by rw[hlz,Nat.mul_comm,Nat.mul_add_mod,Nat.mod_eq_of_lt hj]
       have hjs:j<zv.cells.size:=by omega
       have hmd:(madeCells zv.cells (cap.toNat*i.size))[k*(n+1)+j]?=some (zv.cells[j]!):=by simp[madeCells,hlt,hmod]
       rw[hmd,<-hu']
       simp[hjs]
      ·cases he)
    refine⟨_,_,_,hrun,?_,hp.1,hp.2⟩
    have:=VR.os (W:=W.alloc (.cells (madeCells zv.cells (cap.toNat*i.size)) e)) (C:=C.add S.length (W.heap.size,n+1,cap.toNat*(n+1),e)) (k:=S.length) (i:=0) (len:=len.toNat) (x:=false) (cap:=cap.toNat) (Cx.add_same _ _ _) (by omega) (λe=>by cases e) (λ_=>by simp) (by simp)
    simpa using this
   ·cases h
  ·cases h
 ·cases h
theorem run_makeMap0 (hs:SR W C S) (t kt:TypeId):∃u W' C',(Instr.makeMap t none).run P W=.ok u W'/\VR W' C' (.map S.length) u/\SR W' C' (S++[.map kt []])/\Fr W C S W' C' (S++[.map kt []]):=by
 have hp:=hs.push (W':=W.alloc (.map #[] 0)) (ob':=.map kt []) (g:=W.heap.size) (sz:=0) (tot:=0) (T:=0) rfl rfl rfl (by simp) (λb hb=>Below.heap_alloc W _ b hb) (Uk _) (by simp) (λhm=>⟨#[],0,[],heap_alloc_new W _,List.Perm.refl _,⟨List.nodup_nil,λe he=>by simp at he⟩,rfl,λp hp=>by simp at hp,List.Pairwise.nil,λi p e hp=>by simp at hp⟩)
 refine⟨.map (some W.heap.size),_,_,?_,.map (Cx.add_same _ _ _),hp.1,hp.2⟩
 simp[Instr.makeMap]
end
end Go.Proofs.YtaklebjoenophaaGreat.Dm
