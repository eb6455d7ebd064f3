/-
  More words for runs of the machine.
  A sequence, cut behind its first part.
  The machine with more fuel hands back the same.
  Regions that are run by a plan, by weakest preconditions: every order has the same end.
  Words for stores that grow, for lists of violations, for loops of a few rounds, and for results that are texts.
  Lists of any plain elements that grow, wherever they lie.
  Lists of single cells that grow and shrink at their end, in a row that may be longer; calls that look at the caller's store alone.
-/
import Derived.Test.YtaklebjoenophaaGreatEval
set_option maxHeartbeats 64000000
set_option maxRecDepth 100000
set_option linter.unusedSimpArgs false
set_option linter.unusedVariables false
namespace Go.Proofs.YtaklebjoenophaaGreat.Dm
open Go
theorem le_max {n:Nat} (h:n<=1000000000):(n<=maxLen)=True:=by
 simp only[maxLen,eq_iff_iff,iff_true];omega
def evParts (ev:Operand->D):List (Nat×Operand)->List (Nat×D)
 | []=>[]
 | (i,x)::l=>(i,ev x)::evParts ev l
theorem evParts_map {ev:Operand->D}:∀l:List (Nat×Operand),(l.map λp=>(p.1,ev p.2))=evParts ev l
 | []=>rfl
 | (i,x)::l=>by rw[Uy,evParts_map l];rfl
theorem wo_build {E:Env} {call:Call} {dr:Bool} {ev:Operand->D} {S:List Ob} {t:TypeId} {l:List (Nat×Operand)} {Q:D->List Ob->Prop}:
  WO (dOp E call dr ev S (.build t l.toArray)) Q=WO ((dBuild E.P t (evParts ev l)).map (·,S)) Q:=by
 rw[<-evParts_map];rfl
theorem wo_buildSlice {E:Env} {call:Call} {dr:Bool} {ev:Operand->D} {S:List Ob} {t:TypeId} {n:Nat} {l:List (Nat×Operand)} {Q:D->List Ob->Prop}:
  WO (dOp E call dr ev S (.buildSlice t n l.toArray)) Q=WO ((dBuildSlice E.P t n (evParts ev l)).map (·,S)) Q:=by
 rw[<-evParts_map];rfl
theorem Ya {E:Env} {call:Call} {n:Nat} {x y:Code} {a:List D} {S:List Ob} {Q:PostX} (P:List D->List Ob->Prop) (h:WC (Yr E call n x a S) λr a S=>r=.normal/\P a S) (k:∀a S,P a S->WC (Yr E call n y a S) Q):
  WC (Yr E call n (.seq x y) a S) Q:=by
 rw[Zx]
 refine wc_mono h ?_
 rintro r a S ⟨rfl,hp⟩
 exact k a S hp
def CallLe (c c':Call):Prop:=∀f a S r,c f a S=some r->c' f a S=some r
section
variable {E : Env} {c c' : Call} (h : CallLe c c')
include h
theorem callD_le {st:Bool} {S:List Ob} {f:FuncId} {args:List D} {r:D×List Ob} (k:Yi E c st S f args=some r):Yi E c' st S f args=some r:=by
 unfold Yi at k ⊢
 cases hm:E.mode f <;> rw[hm]at k <;> dsimp only at k ⊢
 ·cases k
 ·exact h _ _ _ _ k
 ·split
  ·rename_i hp
   rw[if_pos hp]at k
   cases hc:c f args [] with
   |none=>rw[hc]at k;cases k
   |some p=>rw[hc]at k;rw[h _ _ _ _ hc];exact k
  ·rename_i hp
   rw[if_neg hp]at k
   split
   ·rename_i hd;rw[if_pos hd]at k;cases k
   ·rename_i hd;rw[if_neg hd]at k;exact h _ _ _ _ k
 ·split
  ·rename_i hp
   rw[if_pos hp]at k
   cases hc:c f args [] with
   |none=>rw[hc]at k;cases k
   |some p=>rw[hc]at k;rw[h _ _ _ _ hc];exact k
  ·rename_i hp
   rw[if_neg hp]at k
   cases hc:c f args S with
   |none=>rw[hc]at k;cases k
   |some p=>rw[hc]at k;rw[h _ _ _ _ hc];exact k
 ·cases hc:c f args S with
  |none=>rw[hc]at k;cases k
  |some p=>rw[hc]at k;rw[h _ _ _ _ hc];exact k
theorem dOp_le {st:Bool} {ev:Operand->D} {S:List Ob} {op:Op} {r:D×List Ob} (k:dOp E c st ev S op=some r):dOp E c' st ev S op=some r:=by
 cases op with
 |call d=>
  obtain⟨callee,args,tys⟩:=d
  cases callee with
  |builtin b=>exact k
  |invoke a b=>exact k
  |value f=>
   cases f with
   |func g=>
    simp only[dOp]at k ⊢
    cases hx:E.ext g with
    |some p=>rw[hx]at k;exact k
    |none=>rw[hx]at k;exact callD_le h k
   |_=>
    simp only[dOp]at k ⊢
    split at k
    ·rename_i g x y hg
     try rw[hg]
     try dsimp only
     split at k
     ·cases k
     ·rename_i hn
      rw[if_neg hn]
      exact callD_le h k
    ·cases k
 |makeFunc fn x y=>cases fn <;> exact k
 |makeMap t r=>cases r <;> exact k
 |next x b=>cases b <;> exact k
 |_=>exact k
theorem stepD_le {st:Bool} {ops:Array Oper} {o:Oper} {a:List D} {S:List Ob} {r:List D×List Ob} (k:stepD E c st ops o a S=some r):stepD E c' st ops o a S=some r:=by
 unfold stepD at k ⊢
 split at k
 ·cases k
 ·rename_i hw;try rw[hw]
  exact k
 ·rename_i hw
  try rw[hw]
  try dsimp only
  cases hd:dOp E c st (evD E a) S o.op with
  |none=>rw[hd]at k;cases k
  |some p=>rw[hd]at k;rw[dOp_le h hd];exact k
theorem runD_le {st:Bool} {ops:Array Oper}:∀ {l:List Oper} {a:List D} {S:List Ob} {r:List D×List Ob},runD E c st ops l a S=some r->runD E c' st ops l a S=some r
 | [],_,_,_,k=>k
 |o::l,a,S,r,k=>by
  unfold runD at k ⊢
  cases hd:stepD E c st ops o a S with
  |none=>rw[hd]at k;cases k
  |some p=>rw[hd]at k;rw[stepD_le h hd];exact runD_le k
theorem planD_le {ops:Array Oper} {L:List Nat} {b:Nat}:∀ {p:Plan} {a:List D} {S:List Ob} {r:List D×List Ob},Kd E c ops L b p a S=some r->Kd E c' ops L b p a S=some r
 | .done,_,_,_,k=>k
 | .step i p,a,S,r,k=>by
  unfold Kd at k ⊢
  split at k
  ·rename_i o ho
   try rw[ho]
   try dsimp only
   have st:∀q,stepW E c ops L b i o a S=some q->stepW E c' ops L b i o a S=some q:=by
    intro q hq
    unfold stepW at hq ⊢
    cases hs:slotN L i with
    |none=>rw[hs]at hq;exact stepD_le h hq
    |some s=>rw[hs]at hq;exact hq
   cases hd:stepW E c ops L b i o a S with
   |none=>rw[hd]at k;cases k
   |some p=>rw[hd]at k;rw[st _ hd];exact planD_le k
  ·cases k
 | .both p q,a,S,r,k=>by
  unfold Kd at k ⊢
  cases h1:Kd E c ops L b p a S with
  |none=>rw[h1]at k;cases k
  |some x=>
   cases h2:Kd E c ops L b q a S with
   |none=>rw[h1,h2]at k;cases k
   |some y=>rw[h1,h2]at k;rw[planD_le h1,planD_le h2];exact k
omit h in
theorem loopD_le {b b':List D->List Ob->Out} (hb:∀a S r,b a S=some r->b' a S=some r):∀ {n m:Nat} {a:List D} {S:List Ob} {r:DX×List D×List Ob},n<=m->loopD b n a S=some r->loopD b' m a S=some r
 |0,_,_,_,_,_,k=>by cases k
 |n+1,0,_,_,_,hn,_=>by omega
 |n+1,m+1,a,S,r,hn,k=>by
  unfold loopD at k ⊢
  cases hc:b a S with
  |none=>rw[hc]at k;cases k
  |some p=>
   obtain⟨x,a',S'⟩:=p
   rw[hc]at k
   rw[hb _ _ _ hc]
   cases x with
   |normal=>exact loopD_le hb (by omega) k
   |exit i=>exact k
   |ret=>exact k
theorem codeD_le {n m:Nat} (hn:n<=m):∀ {k:Code} {a:List D} {S:List Ob} {r:DX×List D×List Ob},Yr E c n k a S=some r->Yr E c' m k a S=some r:=by
 intro k
 induction k with
 |region i ops dr=>
  intro a S r k
  unfold Yr at k ⊢
  split at k
  ·rename_i hp
   try rw[hp]
   try dsimp only
   cases hd:runD E c (dr && strictR E ops) ops ops.toList a S with
   |none=>rw[hd]at k;cases k
   |some p=>rw[hd]at k;rw[runD_le h hd];exact k
  ·rename_i L p hp
   try rw[hp]
   try dsimp only
   cases hd:Kd E c ops L S.length p a (S++List.replicate L.length .dead) with
   |none=>rw[hd]at k;cases k
   |some q=>rw[hd]at k;rw[planD_le h hd];exact k
 |seq x y ihx ihy=>
  intro a S r k
  unfold Yr at k ⊢
  cases hx:Yr E c n x a S with
  |none=>rw[hx]at k;cases k
  |some p=>
   obtain⟨z,a',S'⟩:=p
   rw[hx]at k
   rw[ihx hx]
   cases z with
   |normal=>exact ihy k
   |exit i=>exact k
   |ret=>exact k
 |cond o x y ihx ihy=>
  intro a S r k
  unfold Yr at k ⊢
  split at k
  ·rename_i e;try rw[e]
   exact ihx k
  ·rename_i e;try rw[e]
   exact ihy k
  ·cases k
 |block i x ih=>
  intro a S r k
  unfold Yr at k ⊢
  cases hx:Yr E c n x a S with
  |none=>rw[hx]at k;cases k
  |some p=>rw[hx]at k;rw[ih hx];exact k
 |loop x ih=>
  intro a S r k
  exact loopD_le (λa S r=>ih) hn k
 |scope x ih=>intro a S r k;exact ih k
 |skip=>intro a S r k;exact k
 |exit i=>intro a S r k;exact k
 |label i=>intro a S r k;exact k
 |ret=>intro a S r k;exact k
 |_=>intro a S r k;cases k
end
theorem dcall_le {E:Env}:∀ {n m:Nat},n<=m->CallLe (Yb E n) (Yb E m)
 |0,_,_=>λf a S r k=>by cases k
 |n+1,0,hn=>by omega
 |n+1,m+1,hn=>λf a S r k=>by
  unfold Yb at k ⊢
  split at k
  ·cases k
  ·rename_i hm
   rw[if_neg hm]
   split at k
   ·rename_i p hp;try rw[hp]
    exact k
   ·rename_i hp
    try rw[hp]
    try dsimp only
    split at k
    ·rename_i fn hf
     try rw[hf]
     try dsimp only
     split at k
     ·rename_i cd hb
      try rw[hb]
      try dsimp only
      cases hc:Yr E (Yb E n) n cd (a++List.replicate (fn.ntmps-a.length) (.tup [])) S with
      |none=>rw[hc]at k;cases k
      |some p=>rw[hc]at k;rw[codeD_le (dcall_le (by omega)) (by omega) hc];exact k
     ·cases k
    ·cases k
theorem callD_up {n m:Nat} (hn:n<=m) {st:Bool} {S:List Ob} {f:FuncId} {args:List D} {r:D×List Ob} (k:Yi E (Yb E n) st S f args=some r):Yi E (Yb E m) st S f args=some r:=callD_le (dcall_le hn) k
mutual
theorem beqD_refl:∀d:D,beqD d d=true
 | .undef=>rfl
 | .bool a=>by simp[beqD]
 | .int k a=>by simp[beqD]
 | .str a=>by simp[beqD]
 | .nilp=>rfl
 | .ref a o=>by simp[beqD,beqL_refl a]
 | .loc k i o=>by simp[beqD]
 | .nils=>rfl
 | .sl z a x=>by simp[beqD,beqLL_refl a]
 | .os k i n x=>by simp[beqD]
 | .osc k i n c=>by simp[beqD]
 | .itE k=>by simp[beqD]
 | .nilm=>rfl
 | .it0=>rfl
 | .map k=>by simp[beqD]
 | .nilf=>rfl
 | .func f a b=>by simp[beqD,beqL_refl a,beqL_refl b]
 | .nili=>rfl
 | .iface t a=>by simp[beqD,beqD_refl a]
 | .agg a=>by simp[beqD,beqL_refl a]
 | .tup a=>by simp[beqD,beqL_refl a]
theorem beqL_refl:∀l:List D,beqL l l=true
 | []=>rfl
 |a::l=>by simp[beqL,beqD_refl a,beqL_refl l]
theorem beqLL_refl:∀l:List (List D),beqLL l l=true
 | []=>rfl
 |a::l=>by simp[beqLL,beqL_refl a,beqLL_refl l]
end
theorem beqP_refl:∀l:List (D×D),beqP l l=true
 | []=>rfl
 | (a,b)::l=>by simp[beqP,beqD_refl a,beqD_refl b,beqP_refl l]
theorem beqOb_refl (o:Ob):beqOb o o=true:=by
 cases o <;> simp[beqOb,beqLL_refl,beqP_refl]
theorem beqS_refl:∀l:List Ob,beqS l l=true
 | []=>rfl
 |a::l=>by simp[beqS,beqOb_refl a,beqS_refl l]
section
variable {call : Call} {ops : Array Oper} {a : List D} {S : List Ob} {Q : Post}
theorem wc_plan {pr:PrimF} {n i:Nat} {l:List Oper} {p:Plan} {Q:PostX} (hp:planOf i l.toArray=some ([],p)):WC (Yr (Je pr) call n (.region i l.toArray true) a S) Q=WR (Kd (Je pr) call l.toArray [] S.length p a S) (Q .normal):=by
 have hc:Yr (Je pr) call n (.region i l.toArray true) a S=match Kd (Je pr) call l.toArray [] S.length p a S with
  |some (a',S')=>some (DX.normal,a',S')
  |none=>none:=by
  have hp':(Je pr).plan i l.toArray=some ([],p):=hp
  simp only[Yr,hp',if_true,Vs,List.replicate_zero,Ur]
  rfl
 rw[hc]
 rcases Kd (Je pr) call l.toArray [] S.length p a S with _ | ⟨a',S'⟩
 ·simp only[wc_none,wr_none]
 ·simp only[wc_some,wr_some]
theorem wp_done {pr:PrimF} {b:Nat}:WR (Kd (Je pr) call ops [] b .done a S) Q=Q a S:=wr_some
theorem wp_steps {pr:PrimF} {b:Nat} {p:Plan}:∀ {l:List Nat} {ol:List Oper} {a:List D} {S:List Ob},l.map (λi=>ops[i]?)=ol.map some->WR (Kd (Je pr) call ops [] b (Yj l p) a S) Q=WR (runD (Je pr) call true ops ol a S) λa S=>WR (Kd (Je pr) call ops [] b p a S) Q
 | [],[],a,S,_=>by simp only[Yj,runD,wr_some]
 | [],o::ol,a,S,h=>by simp at h
 |i::l,[],a,S,h=>by simp at h
 |i::l,o::ol,a,S,h=>by
  simp only[Uy,List.cons.injEq]at h
  simp only[Yj,Kd,h.1,stepW,slotN,runD]
  rcases stepD (Je pr) call true ops o a S with _ | ⟨a',S'⟩
  ·simp only[wr_none]
  ·exact wp_steps h.2
def opsOf (ops:Array Oper) (l:List Nat):List Oper:=l.filterMap λi=>ops[i]?
theorem Kq {pr:PrimF} {b:Nat} {p:Plan} {l:List Nat} (h:l.all (λi=>decide (i<ops.size))=true):WR (Kd (Je pr) call ops [] b (Yj l p) a S) Q=WR (runD (Je pr) call true ops (opsOf ops l) a S) λa S=>WR (Kd (Je pr) call ops [] b p a S) Q:=by
 refine wp_steps ?_
 induction l with
 |nil=>rfl
 |cons i l ih=>
  simp only[List.all_cons,Kv,Up]at h
  have hi:ops[i]?=some ops[i]:=by simp[h.1]
  simp only[opsOf,Un,hi,Uy,List.cons.injEq,true_and]
  exact ih h.2
theorem wp_both {pr:PrimF} {b:Nat} {p q:Plan} (a1:List D) (S1:List Ob) (hp:WR (Kd (Je pr) call ops [] b p a S) λa' S'=>a'=a1/\S'=S1) (hq:WR (Kd (Je pr) call ops [] b q a S) λa' S'=>a'=a1/\S'=S1) (h:Q a1 S1):
  WR (Kd (Je pr) call ops [] b (.both p q) a S) Q:=by
 obtain⟨_,_,h1,rfl,rfl⟩:=hp
 obtain⟨_,_,h2,rfl,rfl⟩:=hq
 refine⟨_,_,?_,h⟩
 simp only[Kd,h1,h2,beqL_refl,beqS_refl,Bool.and_self,if_true]
end
theorem set_sort {α:Type} {l:List α} {i j:Nat} {x y:α} (h:j<i):(l.set i x).set j y=(l.set j y).set i x:=List.set_comm _ _ (Nat.ne_of_gt h)
attribute [push_cast] wo_some wo_none wo_ite opQ_eq seqQ_normal seqQ_exit seqQ_ret blockQ_normal blockQ_exit blockQ_ret iterQ_normal iterQ_exit iterQ_ret retQ_normal retQ_ret retQ_exit pickC_true pickC_false pickO_true pickO_false gstep_tt gstep_ff gstep_tf gstep_ft gstep_skip int_bne int_beq le_max evParts planIds hasExt cntFs idxFs clnFs ovlFs List.contains_cons List.contains_nil List.any_cons List.any_nil setC List.length_set true_implies false_implies forall_const eq_self Int.natCast_nonneg Int.toNat_natCast Int.ofNat_lt D.int.injEq Option.some.injEq Nat.zero_add Nat.add_zero bne_iff_ne beq_iff_eq List.getElem?_cons_zero List.getElem?_cons_succ List.getElem?_map List.getElem?_toArray List.filterMap_cons List.filterMap_nil List.length_map Option.map_some List.length_nil
theorem WX:type_of% (And.intro @Zx (And.intro @Yx (And.intro @wc_scope (And.intro @wc_condL (And.intro @wc_region (And.intro @wr_cons (And.intro @wr_consgL (And.intro @wr_nil (And.intro @wo_pickL (And.intro @wo_callf (And.intro @wc_exit (And.intro @wc_ret (And.intro @wc_skip (And.intro @wc_wl (And.intro @wo_build (@wo_buildSlice)))))))))))))))):=And.intro @Zx (And.intro @Yx (And.intro @wc_scope (And.intro @wc_condL (And.intro @wc_region (And.intro @wr_cons (And.intro @wr_consgL (And.intro @wr_nil (And.intro @wo_pickL (And.intro @wo_callf (And.intro @wc_exit (And.intro @wc_ret (And.intro @wc_skip (And.intro @wc_wl (And.intro @wo_build (@wo_buildSlice)))))))))))))))
end Go.Proofs.YtaklebjoenophaaGreat.Dm
namespace Go.Proofs.YtaklebjoenophaaGreat.Dm.Gw
open Go
/-! A loop of a few rounds, round by round. -/
/-! Lists and stores. -/
theorem Yq {α:Type} {l:List α} {x y:α}:(l++[x]).set l.length y=l++[y]:=by simp
theorem Yl {α:Type} {l:List α} {x:α}:(l++[x])[l.length]?=some x:=by simp
theorem get_end' {α:Type} {l:List α} {i:Nat} {x y:α}:(l.set i y++[x])[l.length]?=some x:=by
 have:(l.set i y).length=l.length:=by simp
 rw[<-this];exact Yl
theorem Ym {S J:List Ob} {k:Nat} {o:Ob} (h:S[k]?=some o):(S++J)[k]?=some o:=by
 rw[Ut ((Kr.1 h).1)];exact h
theorem Yu {α:Type} {l:List α} {i:Nat} {x:α} (h:l[i]?=some x):l.drop i=x::l.drop (i+1):=by
 obtain⟨hl,hx⟩:=Kr.1 h
 rw[<-hx]
 exact List.drop_eq_getElem_cons hl
theorem Jk {call:Call} {S:List Ob} {f:FuncId} {args:List D} (hm:E.mode f=.pure) (hp:Yp args=false):Yi E call false S f args=call f args S:=by
 unfold Yi
 rw[hm]
 dsimp only
 rw[if_neg (by rw[hp];simp),if_neg (by simp)]
def ExtS (S T:List Ob):Prop:=∀(k:Nat) (x:Ob),S[k]?=some x->T[k]?=some x
theorem ExtS.push {S T:List Ob} (h:ExtS S T) (x:Ob):ExtS S (T++[x]):=λk y hy=>Ym (h k y hy)
theorem ExtS.refl {S:List Ob}:ExtS S S:=λ_ _ h=>h
theorem ExtS.trans {S T U:List Ob} (h:ExtS S T) (g:ExtS T U):ExtS S U:=λk y hy=>g k y (h k y hy)
/-! Results that are texts. -/
def strOf:Option (D×List Ob)->Option ByteArray
 |some (.str s,_)=>some s
 |_=>none
def sameS (a b:Option ByteArray):Bool:=
 match a,b with
 |some x,some y=>decide (x=y)
 |_,_=>false
theorem sameS_spec {a b:Option ByteArray} (h:sameS a b=true):∃s,a=some s/\b=some s:=by
 unfold sameS at h
 split at h
 ·simp only[Up]at h;subst h;exact⟨_,rfl,rfl⟩
 ·cases h
theorem strOf_spec {o:Option (D×List Ob)} {s:ByteArray} (h:strOf o=some s):∃T,o=some (.str s,T):=by
 unfold strOf at h
 split at h
 ·cases h;exact⟨_,rfl⟩
 ·cases h
theorem ba_eq {a b:ByteArray} (h:(a.toList == b.toList)=true):a=b:=by
 rw[beq_iff_eq,ByteArray.toList_eq,ByteArray.toList_eq]at h
 cases a;cases b
 simpa using h
/-! Lists of violations. -/
def encF (f:Int×ByteArray):List D:=[.int .i64 f.1,.str f.2]
def FV (S:List Ob) (d:D) (fs:List (Int×ByteArray)):Prop:=
 (d=.nils/\fs=[])∨(∃x,d=.sl 2 (fs.map encF) x)∨∃k,d=.os k 0 fs.length false/\S[k]?=some (.row 2 (fs.map encF))
theorem encF_pure (fs:List (Int×ByteArray)):Zc (fs.map encF)=true:=by
 induction fs with
 |nil=>rfl
 |cons f fs ih=>rw[Uy,Zw,ih];rfl
theorem FV.frozen {T S:List Ob} {d:D} {fs:List (Int×ByteArray)} (h:FV T d fs):∃d',Xp T 40 d=some d'/\FV S d' fs:=by
 rcases h with ⟨rfl,rfl⟩ | ⟨x,rfl⟩ | ⟨k,rfl,hk⟩
 ·exact⟨_,rfl,.inl ⟨rfl,rfl⟩⟩
 ·exact⟨_,Yy (encF_pure fs),.inr (.inl ⟨x,rfl⟩)⟩
 ·have:=freeze_os (n:=38) (x:=false) hk (encF_pure fs)
  rw[Uq]at this
  exact⟨_,this,.inr (.inl ⟨_,rfl⟩)⟩
def GV (S:List Ob) (d:D) (fs:List (Int×ByteArray)):Prop:=
 (d=.nils/\fs=[])∨∃k,d=.os k 0 fs.length false/\S[k]?=some (.row 2 (fs.map encF))
theorem GV.fv {S:List Ob} {d:D} {fs:List (Int×ByteArray)} (h:GV S d fs):FV S d fs:=by
 rcases h with ⟨h1,h2⟩ | ⟨k,h1,h2⟩
 ·exact .inl ⟨h1,h2⟩
 ·exact .inr (.inr ⟨k,h1,h2⟩)
theorem GV.push {S:List Ob} {d:D} {fs:List (Int×ByteArray)} (h:GV S d fs) (o:Ob):GV (S++[o]) d fs:=by
 rcases h with ⟨h1,h2⟩ | ⟨k,h1,h2⟩
 ·exact .inl ⟨h1,h2⟩
 ·exact .inr ⟨k,h1,Ym h2⟩
theorem GV.ext {S T:List Ob} {d:D} {fs:List (Int×ByteArray)} (h:GV S d fs) (g:ExtS S T):GV T d fs:=by
 rcases h with ⟨h1,h2⟩ | ⟨k,h1,h2⟩
 ·exact .inl ⟨h1,h2⟩
 ·exact .inr ⟨k,h1,g k _ h2⟩
theorem el_fault:Ki Tryz.prog 51=some 112:=by kernel_rfl
theorem app_fault {S:List Ob} {d:D} {fs:List (Int×ByteArray)} (h:GV S d fs) (hl:fs.length<=1000) (e:Int) (s:ByteArray):
  ∃S',Zb Tryz.prog S 51 51 d (.sl 2 [[.int .i64 e,.str s]] true)=some (.os S.length 0 (fs.length+1) false,S')/\S'[S.length]?=some (.row 2 ((fs++[(e,s)]).map encF))/\(∀k o,(∀n,d=.os k 0 n false->False)->S[k]?=some o->S'[k]?=some o):=by
 rcases h with ⟨rfl,rfl⟩ | ⟨k,rfl,hk⟩
 ·refine⟨S++[.row 2 [[.int .i64 e,.str s]]],?_,Yl,λk o _ h=>Ym h⟩
  simp(maxSteps:=1000000)(disch:=omega)only[push_cast,decide_not,Up,decide_eq_false_iff_not,bne_eq_false_iff_eq,beq_eq_false_iff_ne,Vn,ne_eq,Vp,Vo,Zb,↓WX,simprocAttr]
 ·refine⟨S.set k .dead++[.row 2 (fs.map encF++[[.int .i64 e,.str s]])],?_,?_,λk' o hd h=>?_⟩
  ·have hel:(fs.map encF).length=fs.length:=by simp
   have hm:(fs.map encF).take fs.length=fs.map encF:=by rw[<-hel,Vi]
   generalize fs.map encF=es at*
   simp(maxSteps:=1000000)(disch:=omega)only[push_cast,decide_not,Up,decide_eq_false_iff_not,bne_eq_false_iff_eq,beq_eq_false_iff_ne,Vn,ne_eq,Vp,Vo,Zb,hk,hel,hm,if_pos,Uk,↓WX,simprocAttr]
  ·rw[List.map_append];exact get_end'
  ·have hne:k≠k':=λe=>by subst e;exact hd _ rfl
   exact Ym (by rw[Kt hne];exact h)
theorem app_ov {S':List Ob} {k:Nat} {fs:List (Int×ByteArray)} {f:Int×ByteArray} (h:S'[k]?=some (.row 2 ((fs++[f]).map encF))):GV S' (.os k 0 (fs.length+1) false) (fs++[f]):=
 .inr ⟨k,by rw[Ku];rfl,h⟩
def KeepR (S T:List Ob):Prop:=∀(k sz:Nat) (es:List (List D)),sz≠2->S[k]?=some (.row sz es)->T[k]?=some (.row sz es)
theorem app_g {S:List Ob} {d:D} {fs:List (Int×ByteArray)} (h:GV S d fs) (hl:fs.length<=1000) (e:Int) (s:ByteArray):
  ∃S',Zb Tryz.prog S 51 51 d (.sl 2 [[.int .i64 e,.str s]] true)=some (.os S.length 0 (fs.length+1) false,S')/\GV S' (.os S.length 0 (fs.length+1) false) (fs++[(e,s)])/\KeepR S S'/\(∀k o,(∀n,d=.os k 0 n false->False)->S[k]?=some o->S'[k]?=some o):=by
 obtain⟨S',h1,h2,h3⟩:=app_fault h hl e s
 refine⟨S',h1,app_ov h2,λk sz es hz hs=>h3 k _ (λn e=>?_) hs,h3⟩
 subst e
 rcases h with ⟨g1,-⟩ | ⟨k',g1,g2⟩
 ·cases g1
 ·cases g1
  rw[hs]at g2
  injection g2 with g2
  injection g2 with g2 _
  exact hz g2
def ifF (b:Bool) (e:Int) (s:ByteArray):List (Int×ByteArray):=if b=true then [(e,s)] else []
theorem ifF_len (b:Bool) (e:Int) (s:ByteArray):(ifF b e s).length<=1:=by unfold ifF;split <;> simp
def fdx {α:Type} (p:α->Bool):Nat->List α->Int
 |_,[]=> -1
 |i,x::l=>if p x=true then (i:Int) else fdx p (i+1) l
end Go.Proofs.YtaklebjoenophaaGreat.Dm.Gw
namespace Go.Proofs.YtaklebjoenophaaGreat.Dm
open Go Gw
theorem wc_asc {E:Env} {call:Call} {n:Nat} {x y z:Code} {a:List D} {S:List Ob} {Q:PostX}:WC (Yr E call n (.seq x (.seq y z)) a S) Q=WC (Yr E call n (.seq (.seq x y) z) a S) Q:=by
 rw[Zx,Zx,Zx]
 congr 1
 funext r b U
 cases r
 ·simp only[seqQ,Zx]
 ·rfl
 ·rfl
def GL {α:Type} (sz:Nat) (enc:α->List D) (S:List Ob) (d:D) (l:List α):Prop:=
 (d=.nils/\l=[])∨∃k,d=.os k 0 l.length false/\S[k]?=some (.row sz (l.map enc))
def FLs {α:Type} (sz:Nat) (enc:α->List D) (d:D) (l:List α):Prop:=(d=.nils/\l=[])∨∃x,d=.sl sz (l.map enc) x
section
variable {α : Type} {sz : Nat} {enc : α -> List D} {S T : List Ob} {d : D} {l : List α}
theorem GL.nil:GL sz enc S .nils ([]:List α):=.inl ⟨rfl,rfl⟩
theorem GL.push (h:GL sz enc S d l) (o:Ob):GL sz enc (S++[o]) d l:=by
 rcases h with ⟨h1,h2⟩ | ⟨k,h1,h2⟩
 ·exact .inl ⟨h1,h2⟩
 ·exact .inr ⟨k,h1,Ym h2⟩
theorem GL.ext (h:GL sz enc S d l) (g:ExtS S T):GL sz enc T d l:=by
 rcases h with ⟨h1,h2⟩ | ⟨k,h1,h2⟩
 ·exact .inl ⟨h1,h2⟩
 ·exact .inr ⟨k,h1,g k _ h2⟩
theorem GL.fls (h:GL sz enc S d l) (hp:Zc (l.map enc)=true):∃d',Xp S 40 d=some d'/\FLs sz enc d' l:=by
 rcases h with ⟨rfl,rfl⟩ | ⟨k,rfl,hk⟩
 ·exact⟨_,rfl,.inl ⟨rfl,rfl⟩⟩
 ·have:=freeze_os (n:=38) (x:=false) hk hp
  rw[Uq]at this
  exact⟨_,this,.inr ⟨_,rfl⟩⟩
theorem FLs.pure (h:FLs sz enc d l) (hp:Zc (l.map enc)=true):d.pure=true:=by
 rcases h with ⟨rfl,-⟩ | ⟨x,rfl⟩
 ·rfl
 ·exact hp
theorem app_glB {t e:TypeId} {z:D} {n:Nat} (h1:Ki Tryz.prog t=some e) (h2:Yw Tryz.prog e=some (n+1)) (h3:Ji Tryz.prog e=some z) (h4:z.cells.length=n+1) (hb:(l.length+1)*Kl Tryz.prog e<=140737488355328) (hm0:l.length+1<=maxLen) (h:GL (n+1) enc S d l) (x:α):
  ∃S',Zb Tryz.prog S t t d (.sl (n+1) [enc x] true)=some (.os S.length 0 (l.length+1) false,S')/\GL (n+1) enc S' (.os S.length 0 (l.length+1) false) (l++[x])/\S'.length=S.length+1/\(∀k o,(∀n,d=.os k 0 n false->False)->S[k]?=some o->S'[k]?=some o)/\(∀(k sz:Nat) (es:List (List D)),sz≠n+1->S[k]?=some (.row sz es)->S'[k]?=some (.row sz es)):=by
 have hm:(l.length+1<=maxLen)=True:=eq_true hm0
 rcases h with ⟨rfl,rfl⟩ | ⟨k,rfl,hk⟩
 ·refine⟨S++[.row (n+1) [enc x]],?_,.inr ⟨_,rfl,Yl⟩,by simp,λk o _ h=>Ym h,λk sz es _ h=>Ym h⟩
  rw[Vs,Nat.zero_add,Nat.one_mul]at hb
  simp only[Vs,Nat.zero_add]at hm
  simp only[Zb,if_true,h1,h2,h3,h4,Jw,Uu,Vs,Nat.zero_add,Nat.one_mul,hm,hb,and_self,Nat.succ_ne_zero,if_false,↓reduceIte]
 ·have hel:(l.map enc).length=l.length:=by simp
  refine⟨S.set k .dead++[.row (n+1) (l.map enc++[enc x])],?_,?_,by simp,λk' o hd h=>?_,λk' sz es hz h=>?_⟩
  ·have ht:(l.map enc).take l.length=l.map enc:=by rw[<-hel,Vi]
   generalize l.map enc=es at*
   simp only[Zb,if_true,h1,h2,h3,h4,Jw,hk,hel,Nat.zero_add,Uk,and_self,List.drop_zero,ht,Uu,Vs,hm,hb,Nat.succ_ne_zero,if_false,↓reduceIte]
  ·refine .inr ⟨_,by rw[Ku];rfl,?_⟩
   rw[List.map_append];exact get_end'
  ·have hne:k≠k':=λe=>by subst e;exact hd _ rfl
   exact Ym (by rw[Kt hne];exact h)
  ·have hne:k≠k':=λe=>by
    subst e
    rw[hk]at h
    injection h with h
    injection h with h _
    exact hz h.symm
   exact Ym (by rw[Kt hne];exact h)
theorem app_gl {t e:TypeId} {z:D} {n:Nat} (h1:Ki Tryz.prog t=some e) (h2:Yw Tryz.prog e=some (n+1)) (h3:Ji Tryz.prog e=some z) (h4:z.cells.length=n+1) (h5:Kl Tryz.prog e<=100000) (h:GL (n+1) enc S d l) (hl:l.length<=100000) (x:α):
  ∃S',Zb Tryz.prog S t t d (.sl (n+1) [enc x] true)=some (.os S.length 0 (l.length+1) false,S')/\GL (n+1) enc S' (.os S.length 0 (l.length+1) false) (l++[x])/\S'.length=S.length+1/\(∀k o,(∀n,d=.os k 0 n false->False)->S[k]?=some o->S'[k]?=some o)/\(∀(k sz:Nat) (es:List (List D)),sz≠n+1->S[k]?=some (.row sz es)->S'[k]?=some (.row sz es)):=
 app_glB h1 h2 h3 h4 (Vk (Nat.mul_le_mul (Vu hl) h5) (by decide)) (by unfold maxLen;omega) h x
end
def own:D->Option Nat
 | .os k _ _ _=>some k
 |_=>none
section
variable {α : Type} {val : α -> D} {S T : List Ob} {d : D} {l : List α}
def PL (val:α->D) (S:List Ob) (d:D) (l:List α):Prop:=
 (d=.nils/\l=[])∨d=.sl 1 (l.map λa=>[val a]) true∨∃k es,d=.os k 0 l.length false/\S[k]?=some (.row 1 es)/\es.take l.length=l.map (λa=>[val a])/\l.length<=es.length
theorem PL.keep (h:PL val S d l) (g:∀k o,own d=some k->S[k]?=some o->T[k]?=some o):PL val T d l:=by
 rcases h with h |h | ⟨k,es,h1,h2,h3,h4⟩
 ·exact .inl h
 ·exact .inr (.inl h)
 ·exact .inr (.inr ⟨k,es,h1,g k _ (by rw[h1];rfl) h2,h3,h4⟩)
theorem PL.lt (h:PL val S d l) {k:Nat} (hk:own d=some k):k<S.length:=by
 rcases h with ⟨rfl,-⟩ |rfl | ⟨k',es,rfl,h2,-,-⟩
 ·cases hk
 ·cases hk
 ·cases hk;exact (Kr.1 h2).1
theorem PL.os {k n:Nat} (h:PL val S (.os k 0 n false) l):n=l.length/\∃es,S[k]?=some (.row 1 es)/\es.take l.length=l.map (λa=>[val a])/\l.length<=es.length:=by
 rcases h with ⟨h,-⟩ |h | ⟨k',es,h1,h2,h3,h4⟩
 ·cases h
 ·cases h
 ·cases h1;exact⟨rfl,es,h2,h3,h4⟩
theorem take_pre {es:List (List D)} {n m:Nat} (h:es.take n=l.map (λa=>[val a])) (hm:m<=n):es.take m=(l.take m).map (λa=>[val a]):=by
 rw[List.map_take,<-h,List.take_take,Nat.min_eq_left hm]
theorem PL.cut {k n m:Nat} (h:PL val S (.os k 0 n false) l) (hm:m<=n):PL val S (.os k 0 m false) (l.take m):=by
 obtain⟨rfl,es,h2,h3,h4⟩:=h.os
 have hl:(l.take m).length=m:=by rw[Ve];omega
 exact .inr (.inr ⟨k,es,by rw[hl],h2,by rw[hl];exact take_pre h3 hm,by rw[hl];omega⟩)
end
theorem keptS_app:∀(S J:List Ob),keptS S (S++J)=true
 | [],J=>rfl
 |a::S,J=>by simp[keptS,beqOb_refl,keptS_app S J]
theorem keptS_refl (S:List Ob):keptS S S=true:=by
 have:=keptS_app S []
 rwa [Ur]at this
section
variable {call : Call} {st : Bool} {S : List Ob} {f : FuncId} {args : List D} {d d' : D} {T : List Ob}
theorem callD_obs (hm:E.mode f=.obs) (hp:Yp args=false) (h:call f args S=some (d,S)) (hd:d.pure=true):Yi E call st S f args=some (d,S):=by
 unfold Yi
 rw[hm]
 dsimp only
 rw[if_neg (by rw[hp];simp),h]
 dsimp only
 rw[hd,keptS_refl];rfl
theorem callD_obsJ {J:List Ob} (hm:E.mode f=.obs) (hp:Yp args=false) (h:call f args S=some (d,S++J)) (hd:d.pure=true):Yi E call st S f args=some (d,S):=by
 unfold Yi
 rw[hm]
 dsimp only
 rw[if_neg (by rw[hp];simp),h]
 dsimp only
 rw[hd,keptS_app];rfl
theorem callD_obsP (hm:E.mode f=.obs) (hp:Yp args=true) (h:call f args []=some (d,T)) (hd:Xp T 40 d=some d'):Yi E call st S f args=some (d',S):=by
 unfold Yi
 rw[hm]
 dsimp only
 rw[if_pos hp,h]
 dsimp only
 rw[hd];rfl
theorem callD_ext {J:List Ob} (hm:E.mode f=.ext) (h:call f args S=some (d,S++J)):Yi E call st S f args=some (d,S++J):=by
 unfold Yi
 rw[hm]
 dsimp only
 rw[h]
 dsimp only
 rw[keptS_app];rfl
end
theorem takeP {α:Type} (l:List α) (Q:α->Prop):∃P:Nat->Prop,P 0/\(∀i x,l[i]?=some x->P i->Q x->P (i+1))/\(P l.length->∀x∈l,Q x):=by
 refine⟨λi=>∀x∈l.take i,Q x,λx hx=>by simp at hx,λi x hx h hq y hy=>?_,λh x hx=>h x (by rw[Vi];exact hx)⟩
 rw[List.take_add_one,hx]at hy
 rcases List.mem_append.1 hy with hy |hy
 ·exact h y hy
 ·have:y=x:=by simpa using hy
  rw[this];exact hq
theorem WY : type_of% (And.intro @Int.natCast_add (And.intro @Int.natCast_one (And.intro @Int.natCast_zero (And.intro @decide_true (And.intro @decide_false (And.intro @Bool.not_true (And.intro @Bool.not_false (And.intro @true_and (And.intro @false_and (And.intro @and_true (And.intro @false_or (And.intro @or_false (And.intro @Bool.true_and (And.intro @Bool.false_and (And.intro @and_self (And.intro @not_false_eq_true (And.intro @not_true_eq_false (@Int.lt_irrefl)))))))))))))))))) := And.intro @Int.natCast_add (And.intro @Int.natCast_one (And.intro @Int.natCast_zero (And.intro @decide_true (And.intro @decide_false (And.intro @Bool.not_true (And.intro @Bool.not_false (And.intro @true_and (And.intro @false_and (And.intro @and_true (And.intro @false_or (And.intro @or_false (And.intro @Bool.true_and (And.intro @Bool.false_and (And.intro @and_self (And.intro @not_false_eq_true (And.intro @not_true_eq_false (@Int.lt_irrefl)))))))))))))))))
end Go.Proofs.YtaklebjoenophaaGreat.Dm
