/-
  More words for runs of the machine.
  A sequence, cut behind its first part.
  The machine with more fuel hands back the same.
  Regions that are run by a plan, by weakest preconditions: every order has the same end.
  The machine at the predicates of texts: the program's and the reference's.
  The machine at codes: the program's and the reference's say the same.
-/
import Derived.Test.YtaklebjoenophaaGreatEval
set_option maxHeartbeats 64000000
set_option maxRecDepth 100000
set_option linter.unusedSimpArgs false
set_option linter.unusedVariables false
namespace Go.Proofs.YtaklebjoenophaaGreat.Dm
open Go
theorem le_max {n:Nat} (h:n<=1000000000):(n<=maxLen)=True:=by
 simp only[maxLen,eq_iff_iff,iff_true];omega
def evParts (ev:Operand->D):List (Nat×Operand)->List (Nat×D)
 | []=>[]
 | (i,x)::l=>(i,ev x)::evParts ev l
theorem evParts_map {ev:Operand->D}:∀l:List (Nat×Operand),(l.map λp=>(p.1,ev p.2))=evParts ev l
 | []=>rfl
 | (i,x)::l=>by rw[Zh,evParts_map l];rfl
theorem wo_build {E:Env} {call:Call} {dr:Bool} {ev:Operand->D} {S:List Ob} {t:TypeId} {l:List (Nat×Operand)} {Q:D->List Ob->Prop}:
  WO (dOp E call dr ev S (.build t l.toArray)) Q=WO ((dBuild E.P t (evParts ev l)).map (·,S)) Q:=by
 rw[<-evParts_map];rfl
theorem wo_buildSlice {E:Env} {call:Call} {dr:Bool} {ev:Operand->D} {S:List Ob} {t:TypeId} {n:Nat} {l:List (Nat×Operand)} {Q:D->List Ob->Prop}:
  WO (dOp E call dr ev S (.buildSlice t n l.toArray)) Q=WO ((dBuildSlice E.P t n (evParts ev l)).map (·,S)) Q:=by
 rw[<-evParts_map];rfl
theorem wc_scut {E:Env} {call:Call} {n:Nat} {x y:Code} {a:List D} {S:List Ob} {Q:PostX} (P:List D->List Ob->Prop) (h:WC (codeD E call n x a S) λr a S=>r=.normal/\P a S) (k:∀a S,P a S->WC (codeD E call n y a S) Q):
  WC (codeD E call n (.seq x y) a S) Q:=by
 rw[wc_seq]
 refine wc_mono h ?_
 rintro r a S ⟨rfl,hp⟩
 exact k a S hp
def CallLe (c c':Call):Prop:=∀f a S r,c f a S=some r->c' f a S=some r
section
variable {E : Env} {c c' : Call} (h : CallLe c c')
include h
theorem callD_le {st:Bool} {S:List Ob} {f:FuncId} {args:List D} {r:D×List Ob} (k:callD E c st S f args=some r):callD E c' st S f args=some r:=by
 unfold callD at k ⊢
 cases hm:E.mode f <;> rw[hm]at k <;> dsimp only at k ⊢
 ·cases k
 ·exact h _ _ _ _ k
 ·split
  ·rename_i hp
   rw[if_pos hp]at k
   cases hc:c f args [] with
   |none=>rw[hc]at k;cases k
   |some p=>rw[hc]at k;rw[h _ _ _ _ hc];exact k
  ·rename_i hp
   rw[if_neg hp]at k
   split
   ·rename_i hd;rw[if_pos hd]at k;cases k
   ·rename_i hd;rw[if_neg hd]at k;exact h _ _ _ _ k
 ·split
  ·rename_i hp
   rw[if_pos hp]at k
   cases hc:c f args [] with
   |none=>rw[hc]at k;cases k
   |some p=>rw[hc]at k;rw[h _ _ _ _ hc];exact k
  ·rename_i hp
   rw[if_neg hp]at k
   cases hc:c f args S with
   |none=>rw[hc]at k;cases k
   |some p=>rw[hc]at k;rw[h _ _ _ _ hc];exact k
 ·cases hc:c f args S with
  |none=>rw[hc]at k;cases k
  |some p=>rw[hc]at k;rw[h _ _ _ _ hc];exact k
theorem dOp_le {st:Bool} {ev:Operand->D} {S:List Ob} {op:Op} {r:D×List Ob} (k:dOp E c st ev S op=some r):dOp E c' st ev S op=some r:=by
 cases op with
 |call d=>
  obtain⟨callee,args,tys⟩:=d
  cases callee with
  |builtin b=>exact k
  |invoke a b=>exact k
  |value f=>
   cases f with
   |func g=>
    simp only[dOp]at k ⊢
    cases hx:E.ext g with
    |some p=>rw[hx]at k;exact k
    |none=>rw[hx]at k;exact callD_le h k
   |_=>
    simp only[dOp]at k ⊢
    split at k
    ·rename_i g x y hg
     try rw[hg]
     try dsimp only
     split at k
     ·cases k
     ·rename_i hn
      rw[if_neg hn]
      exact callD_le h k
    ·cases k
 |makeFunc fn x y=>cases fn <;> exact k
 |makeMap t r=>cases r <;> exact k
 |next x b=>cases b <;> exact k
 |_=>exact k
theorem stepD_le {st:Bool} {ops:Array Oper} {o:Oper} {a:List D} {S:List Ob} {r:List D×List Ob} (k:stepD E c st ops o a S=some r):stepD E c' st ops o a S=some r:=by
 unfold stepD at k ⊢
 split at k
 ·cases k
 ·rename_i hw;try rw[hw]
  exact k
 ·rename_i hw
  try rw[hw]
  try dsimp only
  cases hd:dOp E c st (evD E a) S o.op with
  |none=>rw[hd]at k;cases k
  |some p=>rw[hd]at k;rw[dOp_le h hd];exact k
theorem runD_le {st:Bool} {ops:Array Oper}:∀ {l:List Oper} {a:List D} {S:List Ob} {r:List D×List Ob},runD E c st ops l a S=some r->runD E c' st ops l a S=some r
 | [],_,_,_,k=>k
 |o::l,a,S,r,k=>by
  unfold runD at k ⊢
  cases hd:stepD E c st ops o a S with
  |none=>rw[hd]at k;cases k
  |some p=>rw[hd]at k;rw[stepD_le h hd];exact runD_le k
theorem planD_le {ops:Array Oper} {L:List Nat} {b:Nat}:∀ {p:Plan} {a:List D} {S:List Ob} {r:List D×List Ob},planD E c ops L b p a S=some r->planD E c' ops L b p a S=some r
 | .done,_,_,_,k=>k
 | .step i p,a,S,r,k=>by
  unfold planD at k ⊢
  split at k
  ·rename_i o ho
   try rw[ho]
   try dsimp only
   have st:∀q,stepW E c ops L b i o a S=some q->stepW E c' ops L b i o a S=some q:=by
    intro q hq
    unfold stepW at hq ⊢
    cases hs:slotN L i with
    |none=>rw[hs]at hq;exact stepD_le h hq
    |some s=>rw[hs]at hq;exact hq
   cases hd:stepW E c ops L b i o a S with
   |none=>rw[hd]at k;cases k
   |some p=>rw[hd]at k;rw[st _ hd];exact planD_le k
  ·cases k
 | .both p q,a,S,r,k=>by
  unfold planD at k ⊢
  cases h1:planD E c ops L b p a S with
  |none=>rw[h1]at k;cases k
  |some x=>
   cases h2:planD E c ops L b q a S with
   |none=>rw[h1,h2]at k;cases k
   |some y=>rw[h1,h2]at k;rw[planD_le h1,planD_le h2];exact k
omit h in
theorem loopD_le {b b':List D->List Ob->Out} (hb:∀a S r,b a S=some r->b' a S=some r):∀ {n m:Nat} {a:List D} {S:List Ob} {r:DX×List D×List Ob},n<=m->loopD b n a S=some r->loopD b' m a S=some r
 |0,_,_,_,_,_,k=>by cases k
 |n+1,0,_,_,_,hn,_=>by omega
 |n+1,m+1,a,S,r,hn,k=>by
  unfold loopD at k ⊢
  cases hc:b a S with
  |none=>rw[hc]at k;cases k
  |some p=>
   obtain⟨x,a',S'⟩:=p
   rw[hc]at k
   rw[hb _ _ _ hc]
   cases x with
   |normal=>exact loopD_le hb (by omega) k
   |exit i=>exact k
   |ret=>exact k
theorem codeD_le {n m:Nat} (hn:n<=m):∀ {k:Code} {a:List D} {S:List Ob} {r:DX×List D×List Ob},codeD E c n k a S=some r->codeD E c' m k a S=some r:=by
 intro k
 induction k with
 |region i ops dr=>
  intro a S r k
  unfold codeD at k ⊢
  split at k
  ·rename_i hp
   try rw[hp]
   try dsimp only
   cases hd:runD E c (dr && strictR E ops) ops ops.toList a S with
   |none=>rw[hd]at k;cases k
   |some p=>rw[hd]at k;rw[runD_le h hd];exact k
  ·rename_i L p hp
   try rw[hp]
   try dsimp only
   cases hd:planD E c ops L S.length p a (S++List.replicate L.length .dead) with
   |none=>rw[hd]at k;cases k
   |some q=>rw[hd]at k;rw[planD_le h hd];exact k
 |seq x y ihx ihy=>
  intro a S r k
  unfold codeD at k ⊢
  cases hx:codeD E c n x a S with
  |none=>rw[hx]at k;cases k
  |some p=>
   obtain⟨z,a',S'⟩:=p
   rw[hx]at k
   rw[ihx hx]
   cases z with
   |normal=>exact ihy k
   |exit i=>exact k
   |ret=>exact k
 |cond o x y ihx ihy=>
  intro a S r k
  unfold codeD at k ⊢
  split at k
  ·rename_i e;try rw[e]
   exact ihx k
  ·rename_i e;try rw[e]
   exact ihy k
  ·cases k
 |block i x ih=>
  intro a S r k
  unfold codeD at k ⊢
  cases hx:codeD E c n x a S with
  |none=>rw[hx]at k;cases k
  |some p=>rw[hx]at k;rw[ih hx];exact k
 |loop x ih=>
  intro a S r k
  exact loopD_le (λa S r=>ih) hn k
 |scope x ih=>intro a S r k;exact ih k
 |skip=>intro a S r k;exact k
 |exit i=>intro a S r k;exact k
 |label i=>intro a S r k;exact k
 |ret=>intro a S r k;exact k
 |_=>intro a S r k;cases k
end
theorem dcall_le {E:Env}:∀ {n m:Nat},n<=m->CallLe (dcall E n) (dcall E m)
 |0,_,_=>λf a S r k=>by cases k
 |n+1,0,hn=>by omega
 |n+1,m+1,hn=>λf a S r k=>by
  unfold dcall at k ⊢
  split at k
  ·cases k
  ·rename_i hm
   rw[if_neg hm]
   split at k
   ·rename_i p hp;try rw[hp]
    exact k
   ·rename_i hp
    try rw[hp]
    try dsimp only
    split at k
    ·rename_i fn hf
     try rw[hf]
     try dsimp only
     split at k
     ·rename_i cd hb
      try rw[hb]
      try dsimp only
      cases hc:codeD E (dcall E n) n cd (a++List.replicate (fn.ntmps-a.length) (.tup [])) S with
      |none=>rw[hc]at k;cases k
      |some p=>rw[hc]at k;rw[codeD_le (dcall_le (by omega)) (by omega) hc];exact k
     ·cases k
    ·cases k
theorem callD_up {n m:Nat} (hn:n<=m) {st:Bool} {S:List Ob} {f:FuncId} {args:List D} {r:D×List Ob} (k:callD E (dcall E n) st S f args=some r):callD E (dcall E m) st S f args=some r:=callD_le (dcall_le hn) k
mutual
theorem beqD_refl:∀d:D,beqD d d=true
 | .undef=>rfl
 | .bool a=>by simp[beqD]
 | .int k a=>by simp[beqD]
 | .str a=>by simp[beqD]
 | .nilp=>rfl
 | .ref a o=>by simp[beqD,beqL_refl a]
 | .loc k i o=>by simp[beqD]
 | .nils=>rfl
 | .sl z a x=>by simp[beqD,beqLL_refl a]
 | .os k i n x=>by simp[beqD]
 | .osc k i n c=>by simp[beqD]
 | .itE k=>by simp[beqD]
 | .nilm=>rfl
 | .it0=>rfl
 | .map k=>by simp[beqD]
 | .nilf=>rfl
 | .func f a b=>by simp[beqD,beqL_refl a,beqL_refl b]
 | .nili=>rfl
 | .iface t a=>by simp[beqD,beqD_refl a]
 | .agg a=>by simp[beqD,beqL_refl a]
 | .tup a=>by simp[beqD,beqL_refl a]
theorem beqL_refl:∀l:List D,beqL l l=true
 | []=>rfl
 |a::l=>by simp[beqL,beqD_refl a,beqL_refl l]
theorem beqLL_refl:∀l:List (List D),beqLL l l=true
 | []=>rfl
 |a::l=>by simp[beqLL,beqL_refl a,beqLL_refl l]
end
theorem beqP_refl:∀l:List (D×D),beqP l l=true
 | []=>rfl
 | (a,b)::l=>by simp[beqP,beqD_refl a,beqD_refl b,beqP_refl l]
theorem beqOb_refl (o:Ob):beqOb o o=true:=by
 cases o <;> simp[beqOb,beqLL_refl,beqP_refl]
theorem beqS_refl:∀l:List Ob,beqS l l=true
 | []=>rfl
 |a::l=>by simp[beqS,beqOb_refl a,beqS_refl l]
section
variable {call : Call} {ops : Array Oper} {a : List D} {S : List Ob} {Q : Post}
theorem wc_plan {pr:PrimF} {n i:Nat} {l:List Oper} {p:Plan} {Q:PostX} (hp:planOf i l.toArray=some ([],p)):WC (codeD (envOf pr) call n (.region i l.toArray true) a S) Q=WR (planD (envOf pr) call l.toArray [] S.length p a S) (Q .normal):=by
 have hc:codeD (envOf pr) call n (.region i l.toArray true) a S=match planD (envOf pr) call l.toArray [] S.length p a S with
  |some (a',S')=>some (DX.normal,a',S')
  |none=>none:=by
  have hp':(envOf pr).plan i l.toArray=some ([],p):=hp
  simp only[codeD,hp',if_true,Xa,List.replicate_zero,Za]
  rfl
 rw[hc]
 rcases planD (envOf pr) call l.toArray [] S.length p a S with _ | ⟨a',S'⟩
 ·simp only[wc_none,wr_none]
 ·simp only[wc_some,wr_some]
theorem wp_done {pr:PrimF} {b:Nat}:WR (planD (envOf pr) call ops [] b .done a S) Q=Q a S:=wr_some
theorem wp_steps {pr:PrimF} {b:Nat} {p:Plan}:∀ {l:List Nat} {ol:List Oper} {a:List D} {S:List Ob},l.map (λi=>ops[i]?)=ol.map some->WR (planD (envOf pr) call ops [] b (steps l p) a S) Q=WR (runD (envOf pr) call true ops ol a S) λa S=>WR (planD (envOf pr) call ops [] b p a S) Q
 | [],[],a,S,_=>by simp only[steps,runD,wr_some]
 | [],o::ol,a,S,h=>by simp at h
 |i::l,[],a,S,h=>by simp at h
 |i::l,o::ol,a,S,h=>by
  simp only[Zh,List.cons.injEq]at h
  simp only[steps,planD,h.1,stepW,slotN,runD]
  rcases stepD (envOf pr) call true ops o a S with _ | ⟨a',S'⟩
  ·simp only[wr_none]
  ·exact wp_steps h.2
def opsOf (ops:Array Oper) (l:List Nat):List Oper:=l.filterMap λi=>ops[i]?
theorem wp_pick {pr:PrimF} {b:Nat} {p:Plan} {l:List Nat} (h:l.all (λi=>decide (i<ops.size))=true):WR (planD (envOf pr) call ops [] b (steps l p) a S) Q=WR (runD (envOf pr) call true ops (opsOf ops l) a S) λa S=>WR (planD (envOf pr) call ops [] b p a S) Q:=by
 refine wp_steps ?_
 induction l with
 |nil=>rfl
 |cons i l ih=>
  simp only[List.all_cons,Ye,Yy]at h
  have hi:ops[i]?=some ops[i]:=by simp[h.1]
  simp only[opsOf,Yw,hi,Zh,List.cons.injEq,true_and]
  exact ih h.2
theorem wp_both {pr:PrimF} {b:Nat} {p q:Plan} (a1:List D) (S1:List Ob) (hp:WR (planD (envOf pr) call ops [] b p a S) λa' S'=>a'=a1/\S'=S1) (hq:WR (planD (envOf pr) call ops [] b q a S) λa' S'=>a'=a1/\S'=S1) (h:Q a1 S1):
  WR (planD (envOf pr) call ops [] b (.both p q) a S) Q:=by
 obtain⟨_,_,h1,rfl,rfl⟩:=hp
 obtain⟨_,_,h2,rfl,rfl⟩:=hq
 refine⟨_,_,?_,h⟩
 simp only[planD,h1,h2,beqL_refl,beqS_refl,Bool.and_self,if_true]
end
theorem set_sort {α:Type} {l:List α} {i j:Nat} {x y:α} (h:j<i):(l.set i x).set j y=(l.set j y).set i x:=List.set_comm _ _ (Nat.ne_of_gt h)
attribute [push_cast] wo_some wo_none wo_ite opQ_eq seqQ_normal seqQ_exit seqQ_ret blockQ_normal blockQ_exit blockQ_ret iterQ_normal iterQ_exit iterQ_ret retQ_normal retQ_ret retQ_exit pickC_true pickC_false pickO_true pickO_false gstep_tt gstep_ff gstep_tf gstep_ft gstep_skip int_bne int_beq le_max evParts planIds hasExt cntFs idxFs clnFs ovlFs List.contains_cons List.contains_nil List.any_cons List.any_nil setC List.length_set true_implies false_implies forall_const eq_self Int.natCast_nonneg Int.toNat_natCast Int.ofNat_lt D.int.injEq Option.some.injEq Nat.zero_add Nat.add_zero bne_iff_ne beq_iff_eq List.getElem?_cons_zero List.getElem?_cons_succ List.getElem?_map List.getElem?_toArray List.filterMap_cons List.filterMap_nil List.length_map Option.map_some List.length_nil
theorem WX:type_of% (And.intro @wc_seq (And.intro @wc_block (And.intro @wc_scope (And.intro @wc_condL (And.intro @wc_region (And.intro @wr_cons (And.intro @wr_consgL (And.intro @wr_nil (And.intro @wo_pickL (And.intro @wo_callf (And.intro @wc_exit (And.intro @wc_ret (And.intro @wc_skip (And.intro @wc_wl (And.intro @wo_build (@wo_buildSlice)))))))))))))))):=And.intro @wc_seq (And.intro @wc_block (And.intro @wc_scope (And.intro @wc_condL (And.intro @wc_region (And.intro @wr_cons (And.intro @wr_consgL (And.intro @wr_nil (And.intro @wo_pickL (And.intro @wo_callf (And.intro @wc_exit (And.intro @wc_ret (And.intro @wc_skip (And.intro @wc_wl (And.intro @wo_build (@wo_buildSlice)))))))))))))))
def callV (E:Env) (call:Call) (dr:Bool) (S:List Ob) (d:D) (l:List D):Option (D×List Ob):=
 match d with
 | .func g first cap=>if dr && !(decide (E.mode g=.pure) || decide (E.mode g=.obs)) then none else callD E call dr S g (first++l++cap)
 |_=>none
theorem wo_callv {E:Env} {call:Call} {dr:Bool} {ev:Operand->D} {S:List Ob} {t:Tmp} {args:Array Operand} {tys:Array TypeId} {Q:D->List Ob->Prop}:
  WO (dOp E call dr ev S (.call { callee:=.value (.tmp t),args:=args,argTypes:=tys })) Q=WO (callV E call dr S (ev (.tmp t)) (args.toList.map ev)) Q:=rfl
theorem callV_func {E:Env} {call:Call} {S:List Ob} {g:FuncId} {x y l:List D}:callV E call false S (.func g x y) l=callD E call false S g (x++l++y):=by
 simp[callV]
theorem byte_at' {s:ByteArray} {i:Nat} (h:i<s.size):∃b,s[i]?=some b:=⟨s[i],by simp[h]⟩
def capB (b:UInt8):Bool:=decide (65<=b.toNat) && decide (b.toNat<=90)
def digB (b:UInt8):Bool:=decide (48<=b.toNat) && decide (b.toNat<=57)
def cdB (b:UInt8):Bool:=capB b || digB b
def evr (p:UInt8->Bool) (s:ByteArray):Nat->Bool
 |0=>true
 |i+1=>evr p s i && p ((s[i]?).getD 0)
theorem evr_mono {p:UInt8->Bool} {s:ByteArray} {i j:Nat} (h:evr p s i=false) (hij:i<=j):evr p s j=false:=by
 induction j with
 |zero=>have:i=0:=by omega
        subst this;exact h
 |succ j ih=>
  rcases Yf hij with hlt |rfl
  ·rw[evr,ih (by omega)];rfl
  ·exact h
theorem evr_no {p:UInt8->Bool} {s:ByteArray} {i:Nat} {b:UInt8} (hi:i<s.size) (hb:s[i]?=some b) (hp:p b=false):evr p s s.size=false:=
 evr_mono (i:=i+1) (by rw[evr,hb,Option.getD_some,hp,Bool.and_false]) hi
theorem upper_d {n:Nat} {b:UInt8} {S:List Ob}:WO (dcall E (n+1) 151 [.int .u8 b.toNat] S) λd T=>d=.bool (capB b)/\T=S:=by
 refine wo_dcall Tryz.func151 rfl (by decide) rfl 9 rfl (λa hal ha=>?_)
 have h0:a[0]?=some _:=ha 0 (by simp)
 clear ha
 unfold capB
 by_cases h1:65<=b.toNat
 ·have h1':(65:Int)<=(b.toNat:Int):=by omega
  by_cases h2:b.toNat<=90
  ·have h2':(b.toNat:Int)<=90:=by omega
   simp only[push_cast,hal,h0,h1,h1',h2,h2',decide_true,Yj,Tryz.f151,↓WX,simprocAttr]
  ·have h2':¬(b.toNat:Int)<=90:=by omega
   simp only[push_cast,hal,h0,h1,h1',h2,h2',decide_true,decide_false,Bool.and_false,Tryz.f151,↓WX,simprocAttr]
 ·have h1':¬(65:Int)<=(b.toNat:Int):=by omega
  simp only[push_cast,hal,h0,h1,h1',decide_false,Bool.false_and,Tryz.f151,↓WX,simprocAttr]
theorem upper_c {n:Nat} (hn:1<=n) (b:UInt8) (st:Bool) (S:List Ob):callD E (dcall E n) st S 151 [.int .u8 b.toNat]=some (.bool (capB b),S):=by
 obtain⟨m,rfl⟩:∃m,n=m+1:=⟨n-1,by omega⟩
 exact callD_pure rfl rfl (eq_of_wo upper_d) rfl
theorem ref_digit_d {n:Nat} {b:UInt8} {S:List Ob}:WO (dcall E (n+1) 152 [.int .u8 b.toNat] S) λd T=>d=.bool (digB b)/\T=S:=by
 refine wo_dcall Tryz.func152 rfl (by decide) rfl 9 rfl (λa hal ha=>?_)
 have h0:a[0]?=some _:=ha 0 (by simp)
 clear ha
 unfold digB
 by_cases h1:48<=b.toNat
 ·have h1':(48:Int)<=(b.toNat:Int):=by omega
  by_cases h2:b.toNat<=57
  ·have h2':(b.toNat:Int)<=57:=by omega
   simp only[push_cast,hal,h0,h1,h1',h2,h2',decide_true,Yj,Tryz.f152,↓WX,simprocAttr]
  ·have h2':¬(b.toNat:Int)<=57:=by omega
   simp only[push_cast,hal,h0,h1,h1',h2,h2',decide_true,decide_false,Bool.and_false,Tryz.f152,↓WX,simprocAttr]
 ·have h1':¬(48:Int)<=(b.toNat:Int):=by omega
  simp only[push_cast,hal,h0,h1,h1',decide_false,Bool.false_and,Tryz.f152,↓WX,simprocAttr]
theorem ref_digit_c {n:Nat} (hn:1<=n) (b:UInt8) (st:Bool) (S:List Ob):callD E (dcall E n) st S 152 [.int .u8 b.toNat]=some (.bool (digB b),S):=by
 obtain⟨m,rfl⟩:∃m,n=m+1:=⟨n-1,by omega⟩
 exact callD_pure rfl rfl (eq_of_wo ref_digit_d) rfl
def codeS (s:ByteArray) (least most:Int):Bool:=decide (least<=s.size) && decide ((s.size:Int)<=most) && evr cdB s s.size
theorem ref_Code_d {n:Nat} {s:ByteArray} {l m:Int} {S:List Ob} (hn:s.size+3<n) (hz:s.size<=9223372036854775807):
  WO (dcall E (n+1) 105 [.str s,.int .i64 l,.int .i64 m] S) λd T=>d=.bool (codeS s l m)/\T=S:=by
 have c3:=upper_c (n:=n) (by omega)
 have c4:=ref_digit_c (n:=n) (by omega)
 refine wo_dcall Tryz.func105 rfl (by decide) rfl 36 rfl (λa hal ha=>?_)
 have h0:a[0]?=some _:=ha 0 (by simp)
 have h1:a[1]?=some _:=ha 1 (by simp)
 have h2:a[2]?=some _:=ha 2 (by simp)
 clear ha
 simp only[push_cast,↓WX,simprocAttr]
 refine wl_loop (λi a T=>T=S/\a.length=36/\a[0]?=some (.str s)/\a[1]?=some (.int .i64 l)/\a[2]?=some (.int .i64 m)/\a[7]?=some (.int .i64 i)/\evr cdB s i=true) s.size ?_ (by omega) ?_
 ·simp only[push_cast,hal,h0,h1,h2,evr,Int.natCast_zero,simprocAttr]
 ·rintro i a T hi ⟨rfl,hal,h0,h1,h2,h7,hv⟩
  rcases Yf hi with hlt |rfl
  ·obtain⟨b,hb⟩:=byte_at' hlt
   cases hp:capB b
   ·cases hq:digB b
    ·simp(maxSteps:=1000000)(disch:=omega)only[push_cast,hal,h0,h7,hlt,hb,c3,c4,hp,hq,dUn,Tryz.f105,↓WX,simprocAttr]
     unfold codeS
     rw[evr_no hlt hb (by unfold cdB;rw[hp,hq];rfl),Bool.and_false]
    ·have hcd:cdB b=true:=by unfold cdB;rw[hp,hq];rfl
     simp(maxSteps:=1000000)(disch:=omega)only[push_cast,hal,h0,h1,h2,h7,hlt,hb,c3,c4,hp,hq,dUn,wrap_ok,evr,hv,hcd,Int.natCast_add,Int.natCast_one,↓WX,simprocAttr]
   ·have hcd:cdB b=true:=by unfold cdB;rw[hp];rfl
    simp(maxSteps:=1000000)(disch:=omega)only[push_cast,hal,h0,h1,h2,h7,hlt,hb,c3,hp,dUn,wrap_ok,evr,hv,hcd,Int.natCast_add,Int.natCast_one,↓WX,simprocAttr]
  ·unfold codeS
   by_cases c1:l<=s.size
   ·by_cases c2:(s.size:Int)<=m
    ·simp only[push_cast,hal,h0,h1,h2,h7,c1,c2,hv,Zv,decide_true,Bool.true_and,Tryz.f105,↓WX,simprocAttr]
    ·simp only[push_cast,hal,h0,h1,h2,h7,c1,c2,hv,Zv,decide_true,decide_false,Bool.true_and,Bool.false_and,Tryz.f105,↓WX,simprocAttr]
   ·simp only[push_cast,hal,h0,h1,h7,c1,hv,Zv,decide_false,Bool.false_and,Tryz.f105,↓WX,simprocAttr]
def lettS (s:ByteArray) (k:Nat):Bool:=decide (s.size=k) && evr capB s s.size
theorem letters_d {n k:Nat} {s:ByteArray} {S:List Ob} (hn:s.size+3<n) (hz:s.size<=9223372036854775807):
  WO (dcall E (n+1) 149 [.str s,.int .i64 k] S) λd T=>d=.bool (lettS s k)/\T=S:=by
 have c3:=upper_c (n:=n) (by omega)
 refine wo_dcall Tryz.func149 rfl (by decide) rfl 21 rfl (λa hal ha=>?_)
 have h0:a[0]?=some _:=ha 0 (by simp)
 have h1:a[1]?=some _:=ha 1 (by simp)
 clear ha
 simp only[push_cast,↓WX,simprocAttr]
 refine wl_loop (λi a T=>T=S/\a.length=21/\a[0]?=some (.str s)/\a[1]?=some (.int .i64 k)/\a[5]?=some (.int .i64 i)/\evr capB s i=true) s.size ?_ (by omega) ?_
 ·simp only[push_cast,hal,h0,h1,evr,Int.natCast_zero,simprocAttr]
 ·rintro i a T hi ⟨rfl,hal,h0,h1,h5,hv⟩
  rcases Yf hi with hlt |rfl
  ·obtain⟨b,hb⟩:=byte_at' hlt
   cases hp:capB b
   ·simp only[push_cast,hal,h0,h5,hlt,hb,c3,hp,dUn,Tryz.f149,↓WX,simprocAttr]
    unfold lettS
    rw[evr_no hlt hb hp,Bool.and_false]
   ·simp(maxSteps:=1000000)(disch:=omega)only[push_cast,hal,h0,h1,h5,hlt,hb,c3,hp,dUn,wrap_ok,evr,hv,Int.natCast_add,Int.natCast_one,↓WX,simprocAttr]
  ·unfold lettS
   have hk:decide ((s.size:Int)=(k:Int))=decide (s.size=k):=decide_eq_decide.2 (by omega)
   simp only[push_cast,hal,h0,h1,h5,hv,hk,Zv,Yj,Tryz.f149,↓WX,simprocAttr]
theorem WY : type_of% (And.intro @Int.natCast_add (And.intro @Int.natCast_one (And.intro @Int.natCast_zero (And.intro @decide_true (And.intro @decide_false (And.intro @Bool.not_true (And.intro @Bool.not_false (And.intro @true_and (And.intro @false_and (And.intro @and_true (And.intro @false_or (And.intro @or_false (And.intro @Bool.true_and (And.intro @Bool.false_and (And.intro @and_self (And.intro @not_false_eq_true (And.intro @not_true_eq_false (@Int.lt_irrefl)))))))))))))))))) := And.intro @Int.natCast_add (And.intro @Int.natCast_one (And.intro @Int.natCast_zero (And.intro @decide_true (And.intro @decide_false (And.intro @Bool.not_true (And.intro @Bool.not_false (And.intro @true_and (And.intro @false_and (And.intro @and_true (And.intro @false_or (And.intro @or_false (And.intro @Bool.true_and (And.intro @Bool.false_and (And.intro @and_self (And.intro @not_false_eq_true (And.intro @not_true_eq_false (@Int.lt_irrefl)))))))))))))))))
end Go.Proofs.YtaklebjoenophaaGreat.Dm
