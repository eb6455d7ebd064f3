/-
  The words by which a run of the machine is reckoned out where its data are not all known.
  Runs of the machine by weakest preconditions, for loops over data that are not known.
-/
import Derived.Test.YtaklebjoenophaaGreatTy
set_option linter.unusedSimpArgs false
set_option linter.unusedVariables false
namespace Go.Proofs.YtaklebjoenophaaGreat.Dm
open Go
attribute [push_cast] Yr runD stepD wantD ylD dOp evD putD fromVal fromCell fromCells D.cells D.one takeC setFrom dPart behind dLoad dStore dFieldAddr dField dIndexAddr dIndex Kf Kc dSlice dCut3 dInt dStr dBin dUn dConv bytesOf
 dFill dBuild dBuildSlice chunks reps dLen dMin2 dMins dBuiltin resD tupD Jw
attribute [push_cast] List.getElem?_toArray beq_self_eq_true BEq.rfl List.map_cons List.map_nil List.getElem?_cons_zero List.getElem?_cons_succ List.set_cons_zero List.set_cons_succ List.cons_append List.nil_append List.append_nil List.length_cons List.length_nil List.replicate_succ List.replicate_zero
 Vm Option.map_none Option.getD_some Option.getD_none Option.bind_some Option.bind_none Option.isSome_some Option.isSome_none decide_true decide_false if_true if_false ite_true ite_false Ua Bool.true_and Bool.and_false Bool.false_and Bool.or_true Bool.true_or Bool.or_false Bool.false_or Bool.not_true Bool.not_false
 Ui and_true true_and and_false false_and Uw Prod.mk.injEq List.drop_zero List.take_zero List.all_cons List.all_nil List.drop_succ_cons List.take_succ_cons Int.toNat_zero Int.toNat_one
theorem dcall_eq {E:Env} {n:Nat} {f:FuncId} {args:List D} {S:List Ob} {fn:Func} {c:Code} (hf:E.P.funcs[f]?=some fn) (hb:fn.body=some c) (hm:E.mode f≠.no) (hp:E.prim f=none):
  Yb E (n+1) f args S=match Yr E (Yb E n) n c (args++List.replicate (fn.ntmps-args.length) (.tup [])) S with
   |some (.exit _,_,_)=>none
   |some (_,a,S')=>(resD E.P a S' fn.results.toList).map λds=>(tupD ds,S')
   |none=>none:=by
 show (if E.mode f=.no then none else _)=_
 rw[if_neg hm,hp,hf]
 simp only[hb]
 rfl
theorem Yf {x:Int} (h0: -9223372036854775808<=x) (h1:x<=9223372036854775807):IntKind.i64.wrap x=x:=by
 rw[IntKind.wrap_i64];omega
theorem Yg:Yp []=true:=rfl
theorem Yc (d:D) (l:List D):Yp (d::l)=(d.pure && Yp l):=rfl
theorem Yy {T:List Ob} {n:Nat} {d:D} (h:d.pure=true):Xp T (n+1) d=some d:=by
 unfold Xp;rw[if_pos h]
theorem Yd {call:Call} {st:Bool} {S:List Ob} {f:FuncId} {args:List D} {d d':D} {T:List Ob} (hm:E.mode f=.pure) (hp:Yp args=true) (h:call f args []=some (d,T)) (hd:Xp T 40 d=some d'):Yi E call st S f args=some (d',S):=by
 unfold Yi
 rw[hm]
 dsimp only
 rw[if_pos hp,h]
 dsimp only
 rw[hd]
 rfl
def isT:Option (D×List Ob)->Bool
 |some (.bool b,_)=>b
 |_=>false
theorem isT_spec {o:Option (D×List Ob)} (h:isT o=true):∃T,o=some (.bool true,T):=by
 unfold isT at h
 split at h
 ·subst h;exact⟨_,rfl⟩
 ·cases h
abbrev Post:=List D->List Ob->Prop
abbrev PostX:=DX->List D->List Ob->Prop
def WC (o:Out) (Q:PostX):Prop:=∃x a S,o=some (x,a,S)/\Q x a S
def WR (o:Option (List D×List Ob)) (Q:Post):Prop:=∃a S,o=some (a,S)/\Q a S
def WO (o:Option (D×List Ob)) (Q:D->List Ob->Prop):Prop:=∃d S,o=some (d,S)/\Q d S
def seqQ (E:Env) (call:Call) (n:Nat) (y:Code) (Q:PostX):PostX
 | .normal,a,S=>WC (Yr E call n y a S) Q
 |x,a,S=>Q x a S
def blockQ (id:Nat) (Q:PostX):PostX
 | .exit j,a,S=>if j=id then Q .normal a S else Q (.exit j) a S
 |x,a,S=>Q x a S
def pickQ:D->Prop->Prop->Prop
 | .bool b,A,B=>(b=true->A)/\(b=false->B)
 |_,_,_=>False
def opQ (E:Env) (call:Call) (dr:Bool) (ops:Array Oper) (l:List Oper) (a:List D) (dst:Option Tmp) (Q:Post):D->List Ob->Prop:=
 λd S=>WR (runD E call dr ops l (putD a dst d) S) Q
def guardQ (y:Option (Option Bool)) (want:Bool) (A B:Prop):Prop:=
 match y with
 |none=>False
 |some none=>B
 |some (some b)=>(b=want->A)/\(b≠want->B)
def iterQ (I:Nat->List D->List Ob->Prop) (N i:Nat) (Q:PostX):PostX
 | .normal,a,S=>i<N/\I (i+1) a S
 |x,a,S=>Q x a S
def retQ (P:Program) (rs:List ResultVar) (Q:D->List Ob->Prop):PostX
 | .exit _,_,_=>False
 |_,a,S=>match resD P a S rs with
  |some ds=>Q (tupD ds) S
  |none=>False
section rules
variable {E : Env} {call : Call} {n : Nat} {a : List D} {S : List Ob} {Q : PostX}
theorem wc_some {o:DX×List D×List Ob}:WC (some o) Q=Q o.1 o.2.1 o.2.2:=by
 apply propext
 constructor
 ·rintro⟨x,a,S,h,hq⟩;cases h;exact hq
 ·intro h;exact⟨_,_,_,rfl,h⟩
theorem wc_none:WC none Q=False:=by
 apply propext
 constructor
 ·rintro⟨x,a,S,h,hq⟩;cases h
 ·intro h;exact h.elim
theorem wr_some {o:List D×List Ob} {Q:Post}:WR (some o) Q=Q o.1 o.2:=by
 apply propext
 constructor
 ·rintro⟨a,S,h,hq⟩;cases h;exact hq
 ·intro h;exact⟨_,_,rfl,h⟩
theorem wr_none {Q:Post}:WR none Q=False:=by
 apply propext
 constructor
 ·rintro⟨a,S,h,hq⟩;cases h
 ·intro h;exact h.elim
theorem wo_some {d S} {Q:D->List Ob->Prop}:WO (some (d,S)) Q=Q d S:=by
 apply propext
 constructor
 ·rintro⟨x,T,h,hq⟩;cases h;exact hq
 ·intro h;exact⟨_,_,rfl,h⟩
theorem wo_none {Q:D->List Ob->Prop}:WO none Q=False:=by
 apply propext
 constructor
 ·rintro⟨x,T,h,hq⟩;cases h
 ·intro h;exact h.elim
theorem wc_skip:WC (Yr E call n .skip a S) Q=Q .normal a S:=wc_some
theorem wc_exit {i}:WC (Yr E call n (.exit i) a S) Q=Q (.exit i) a S:=wc_some
theorem wc_ret:WC (Yr E call n .ret a S) Q=Q .ret a S:=wc_some
theorem wc_scope {c}:WC (Yr E call n (.scope c) a S) Q=WC (Yr E call n c a S) Q:=rfl
theorem Zx {x y}:WC (Yr E call n (.seq x y) a S) Q=WC (Yr E call n x a S) (seqQ E call n y Q):=by
 show WC (match Yr E call n x a S with
  |some (.normal,a',S')=>Yr E call n y a' S'
  |r=>r) Q=_
 rcases h:Yr E call n x a S with _ | ⟨d,a',S'⟩
 ·simp only[wc_none]
 ·cases d <;> simp only[wc_some,seqQ]
theorem Yx {id c}:WC (Yr E call n (.block id c) a S) Q=WC (Yr E call n c a S) (blockQ id Q):=by
 show WC (match Yr E call n c a S with
  |some (.exit j,a',S')=>if j=id then some (.normal,a',S') else some (.exit j,a',S')
  |r=>r) Q=_
 rcases h:Yr E call n c a S with _ | ⟨d,a',S'⟩
 ·simp only[wc_none]
 ·cases d with
  |normal=>simp only[wc_some,blockQ]
  |ret=>simp only[wc_some,blockQ]
  |exit j=>by_cases hj:j=id <;> simp only[wc_some,blockQ,hj,if_true,if_false]
theorem wc_cond {c x y}:WC (Yr E call n (.cond c x y) a S) Q=pickQ (evD E a c) (WC (Yr E call n x a S) Q) (WC (Yr E call n y a S) Q):=by
 show WC (match evD E a c with
  | .bool true=>Yr E call n x a S
  | .bool false=>Yr E call n y a S
  |_=>none) Q=_
 cases evD E a c <;> try (simp only[pickQ,wc_none];done)
 rename_i b
 cases b <;> simp[pickQ]
theorem wc_region {pr:PrimF} {i dr} {ops:List Oper}:WC (Yr (Je pr) call n (.region i ops.toArray dr) a S) Q=if (dr && planIds.contains (planKey i ops))=true then WC (Yr (Je pr) call n (.region i ops.toArray dr) a S) Q else WR (runD (Je pr) call (dr && strictR (Je pr) ops.toArray) ops.toArray ops a S) (Q .normal):=by
 by_cases h:(dr && planIds.contains (planKey i ops))=true
 ·rw[if_pos h]
 ·rw[if_neg h]
  have hp:(if dr=true then (Je pr).plan i ops.toArray else none)=none:=by
   cases dr with
   |false=>rfl
   |true=>
    rw[if_pos rfl]
    show planOf i ops.toArray=none
    unfold planOf
    rw[List.toList_toArray,if_neg (by simpa using h)]
  have hc:Yr (Je pr) call n (.region i ops.toArray dr) a S=match runD (Je pr) call (dr && strictR (Je pr) ops.toArray) ops.toArray ops a S with
   |some (a',S')=>some (DX.normal,a',S')
   |none=>none:=by
   simp only[Yr]
   rw[hp]
   rfl
  rw[hc]
  rcases runD (Je pr) call (dr && strictR (Je pr) ops.toArray) ops.toArray ops a S with _ | ⟨a',S'⟩
  ·simp only[wc_none,wr_none]
  ·simp only[wc_some,wr_some]
theorem wr_nil {dr ops} {Q:Post}:WR (runD E call dr ops [] a S) Q=Q a S:=wr_some
theorem wr_cons {dr ops} {op:Op} {dst ft l} {Q:Post} {pos ty}:WR (runD E call dr ops ({ op:=op,dst:=dst,guard:=none,after:=ft,pos:=pos,type:=ty }::l) a S) Q=WO (dOp E call dr (evD E a) S op) (opQ E call dr ops l a dst Q):=by
 unfold opQ
 simp only[runD,stepD,wantD]
 rcases dOp E call dr (evD E a) S op with _ | ⟨d,S'⟩
 ·simp only[wr_none,wo_none]
 ·simp only[wo_some]
theorem wr_consg {dr ops} {op:Op} {dst j want ft l} {Q:Post} {pos ty}:WR (runD E call dr ops ({ op:=op,dst:=dst,guard:=some (j,want),after:=ft,pos:=pos,type:=ty }::l) a S) Q=guardQ (ylD ops a j) want (WO (dOp E call dr (evD E a) S op) (opQ E call dr ops l a dst Q)) (WR (runD E call dr ops l (putD a dst (.tup [])) S) Q):=by
 unfold opQ guardQ
 simp only[runD,stepD,wantD]
 rcases ylD ops a j with _ | (_ |b)
 ·simp only[Option.map_none,wr_none]
 ·have:((none:Option Bool) == some want)=false:=rfl
  simp only[Vm,this]
 ·by_cases hb:b=want
  ·subst hb
   simp only[Vm,beq_self_eq_true]
   rcases dOp E call dr (evD E a) S op with _ | ⟨d,S'⟩
   ·simp[wr_none,wo_none]
   ·simp[wo_some]
  ·have:(some b == some want)=false:=by simpa using hb
   simp[this,hb]
theorem wo_ite {c:Prop} [Decidable c] {x} {Q:D->List Ob->Prop}:WO (if c then x else none) Q=(c/\WO x Q):=by
 by_cases h:c <;> simp[h,wo_none]
theorem wo_pick {dr ev c x y} {Q:D->List Ob->Prop}:WO (dOp E call dr ev S (.pick c x y)) Q=pickQ (ev c) (Q (ev x) S) (Q (ev y) S):=by
 show WO (match ev c with
  | .bool b=>some (if b then ev x else ev y,S)
  |_=>none) Q=_
 cases ev c <;> try (simp only[pickQ,wo_none];done)
 rename_i b
 cases b <;> simp[pickQ,wo_some]
def hasExt (g:Nat):Bool:=cntFs.contains g || idxFs.contains g || clnFs.contains g || ovlFs.any (·.1 == g)
theorem ext_none {pr:PrimF} {g:Nat} (h:hasExt g=false):(Je pr).ext g=none:=by
 unfold hasExt at h
 rw[Bool.or_eq_false_iff,Bool.or_eq_false_iff,Bool.or_eq_false_iff]at h
 show extOf g=none
 unfold extOf
 rw[if_neg (by rw[h.1.1.1];simp),if_neg (by rw[h.1.1.2];simp),if_neg (by rw[h.1.2];simp)]
 have:ovlFs.find? (λp=>p.1 == g)=none:=by
  rw[List.find?_eq_none]
  intro p hp
  have:=h.2
  rw[List.any_eq_false]at this
  exact this p hp
 rw[this]
theorem wo_callf {pr:PrimF} {call:Call} {dr:Bool} {ev:Operand->D} {S:List Ob} {g:FuncId} {args:Array Operand} {tys:Array TypeId} {Q:D->List Ob->Prop}:
  WO (dOp (Je pr) call dr ev S (.call { callee:=.value (.func g),args:=args,argTypes:=tys })) Q=
   if hasExt g=true then WO (match (Je pr).ext g with |some p=>p S (args.toList.map ev) |none=>Yi (Je pr) call dr S g (args.toList.map ev)) Q else WO (Yi (Je pr) call dr S g (args.toList.map ev)) Q:=by
 by_cases h:hasExt g=true
 ·rw[if_pos h];rfl
 ·rw[if_neg h]
  show WO (match (Je pr).ext g with |some p=>p S (args.toList.map ev) |none=>Yi (Je pr) call dr S g (args.toList.map ev)) Q=_
  rw[ext_none (by simpa using h)]
theorem opQ_eq {dr ops l dst} {Q:Post} {d}:opQ E call dr ops l a dst Q d S=WR (runD E call dr ops l (putD a dst d) S) Q:=rfl
theorem seqQ_normal {y}:seqQ E call n y Q .normal a S=WC (Yr E call n y a S) Q:=rfl
theorem seqQ_exit {y i}:seqQ E call n y Q (.exit i) a S=Q (.exit i) a S:=rfl
theorem seqQ_ret {y}:seqQ E call n y Q .ret a S=Q .ret a S:=rfl
theorem blockQ_normal {i}:blockQ i Q .normal a S=Q .normal a S:=rfl
theorem blockQ_exit {i j}:blockQ i Q (.exit j) a S=if j=i then Q .normal a S else Q (.exit j) a S:=rfl
theorem blockQ_ret {i}:blockQ i Q .ret a S=Q .ret a S:=rfl
theorem iterQ_normal {I N i}:iterQ I N i Q .normal a S=(i<N/\I (i+1) a S):=rfl
theorem iterQ_exit {I N i j}:iterQ I N i Q (.exit j) a S=Q (.exit j) a S:=rfl
theorem iterQ_ret {I N i}:iterQ I N i Q .ret a S=Q .ret a S:=rfl
theorem retQ_normal {P rs} {Q:D->List Ob->Prop}:retQ P rs Q .normal a S=(match resD P a S rs with
  |some ds=>Q (tupD ds) S
  |none=>False):=rfl
theorem retQ_ret {P rs} {Q:D->List Ob->Prop}:retQ P rs Q .ret a S=(match resD P a S rs with
  |some ds=>Q (tupD ds) S
  |none=>False):=rfl
theorem retQ_exit {P rs i} {Q:D->List Ob->Prop}:retQ P rs Q (.exit i) a S=False:=rfl
theorem wc_mono {o:Out} {Q Q':PostX} (h:WC o Q) (hq:∀x a S,Q x a S->Q' x a S):WC o Q':=by
 obtain⟨x,a,S,ho,h⟩:=h
 exact⟨x,a,S,ho,hq _ _ _ h⟩
theorem int_bne (a b:Int):(a != b)=decide (¬a=b):=by
 rw[Bool.eq_iff_iff];simp
theorem int_beq (a b:Int):(a == b)=decide (a=b):=by
 rw[Bool.eq_iff_iff];simp
/-! Where a choice rests until its condition is known. -/
def pickC (d:D) (E:Env) (call:Call) (n:Nat) (x y:Code) (a:List D) (S:List Ob) (Q:PostX):Prop:=pickQ d (WC (Yr E call n x a S) Q) (WC (Yr E call n y a S) Q)
def pickO (d:D) (Q:D->List Ob->Prop) (x y:D) (S:List Ob):Prop:=pickQ d (Q x S) (Q y S)
def gstep (z:Option (Option Bool)) (want:Bool) (E:Env) (call:Call) (dr:Bool) (ops:Array Oper) (op:Op) (dst:Option Tmp) (l:List Oper) (a:List D) (S:List Ob) (Q:Post):Prop:=
 guardQ z want (WO (dOp E call dr (evD E a) S op) (opQ E call dr ops l a dst Q)) (WR (runD E call dr ops l (putD a dst (.tup [])) S) Q)
theorem wc_condL {c x y}:WC (Yr E call n (.cond c x y) a S) Q=pickC (evD E a c) E call n x y a S Q:=wc_cond
theorem wo_pickL {dr ev c x y} {Q:D->List Ob->Prop}:WO (dOp E call dr ev S (.pick c x y)) Q=pickO (ev c) Q (ev x) (ev y) S:=wo_pick
theorem wr_consgL {dr ops} {op:Op} {dst j want ft l} {Q:Post} {pos ty}:WR (runD E call dr ops ({ op:=op,dst:=dst,guard:=some (j,want),after:=ft,pos:=pos,type:=ty }::l) a S) Q=gstep (ylD ops a j) want E call dr ops op dst l a S Q:=wr_consg
theorem pickC_true {x y}:pickC (.bool true) E call n x y a S Q=WC (Yr E call n x a S) Q:=by simp[pickC,pickQ]
theorem pickC_false {x y}:pickC (.bool false) E call n x y a S Q=WC (Yr E call n y a S) Q:=by simp[pickC,pickQ]
theorem pickO_true {x y} {Q:D->List Ob->Prop}:pickO (.bool true) Q x y S=Q x S:=by simp[pickO,pickQ]
theorem pickO_false {x y} {Q:D->List Ob->Prop}:pickO (.bool false) Q x y S=Q y S:=by simp[pickO,pickQ]
theorem gstep_tt {dr ops op dst l} {Q:Post}:gstep (some (some true)) true E call dr ops op dst l a S Q=WO (dOp E call dr (evD E a) S op) (opQ E call dr ops l a dst Q):=by simp[gstep,guardQ]
theorem gstep_ff {dr ops op dst l} {Q:Post}:gstep (some (some false)) false E call dr ops op dst l a S Q=WO (dOp E call dr (evD E a) S op) (opQ E call dr ops l a dst Q):=by simp[gstep,guardQ]
theorem gstep_tf {dr ops op dst l} {Q:Post}:gstep (some (some true)) false E call dr ops op dst l a S Q=WR (runD E call dr ops l (putD a dst (.tup [])) S) Q:=by simp[gstep,guardQ]
theorem gstep_ft {dr ops op dst l} {Q:Post}:gstep (some (some false)) true E call dr ops op dst l a S Q=WR (runD E call dr ops l (putD a dst (.tup [])) S) Q:=by simp[gstep,guardQ]
theorem gstep_skip {w dr ops op dst l} {Q:Post}:gstep (some none) w E call dr ops op dst l a S Q=WR (runD E call dr ops l (putD a dst (.tup [])) S) Q:=rfl
theorem wc_loop {c:Code} (I:Nat->List D->List Ob->Prop) (N:Nat) (h0:I 0 a S) (hn:N<n)
  (step:∀i a S,i<=N->I i a S->WC (Yr E call n c a S) (iterQ I N i Q)):WC (Yr E call n (.loop c) a S) Q:=by
 suffices H:∀m i a S,i<=N->N-i<m->I i a S->WC (loopD (Yr E call n c) m a S) Q from H n 0 a S (Vt _) (by omega) h0
 intro m
 induction m with
 |zero=>intro i a S _ hm;omega
 |succ m ih=>
  intro i a S hi hm h
  obtain⟨x,a',S',ho,hq⟩:=step i a S hi h
  cases x with
  |normal=>
   obtain⟨hlt,hI⟩:=hq
   obtain⟨x,b,T,hb,hQ⟩:=ih (i+1) a' S' hlt (by omega) hI
   exact⟨x,b,T,by rw[loopD,ho];exact hb,hQ⟩
  |exit j=>exact⟨_,a',S',by rw[loopD,ho],hq⟩
  |ret=>exact⟨_,a',S',by rw[loopD,ho],hq⟩
end rules
def WL (E:Env) (call:Call) (n:Nat) (c:Code) (a:List D) (S:List Ob) (Q:PostX):Prop:=WC (Yr E call n (.loop c) a S) Q
theorem wc_wl {E:Env} {call:Call} {n:Nat} {c:Code} {a:List D} {S:List Ob} {Q:PostX}:WC (Yr E call n (.loop c) a S) Q=WL E call n c a S Q:=rfl
theorem Yk {E:Env} {call:Call} {n:Nat} {c:Code} {a:List D} {S:List Ob} {Q:PostX} (I:Nat->List D->List Ob->Prop) (N:Nat) (h0:I 0 a S) (hn:N<n)
  (step:∀i a S,i<=N->I i a S->WC (Yr E call n c a S) (iterQ I N i Q)):WL E call n c a S Q:=wc_loop I N h0 hn step
theorem Ye {E:Env} {n:Nat} {f:FuncId} {args:List D} {S:List Ob} {fn:Func} {c:Code} {Q:D->List Ob->Prop} (hf:E.P.funcs[f]?=some fn) (hb:fn.body=some c) (hm:E.mode f≠.no) (hp:E.prim f=none)
  (N:Nat) (hN:args.length+(fn.ntmps-args.length)=N)
  (h:∀a:List D,a.length=N->(∀i,i<args.length->a[i]?=args[i]?)->WC (Yr E (Yb E n) n c a S) (retQ E.P fn.results.toList Q)):
  WO (Yb E (n+1) f args S) Q:=by
 rw[dcall_eq hf hb hm hp]
 obtain⟨x,a',S',ho,hq⟩:=h (args++List.replicate (fn.ntmps-args.length) (.tup [])) (by simp[hN]) (λi hi=>Ut hi)
 rw[ho]
 have key:∀ {ds:Option (List D)},(match ds with |some ds=>Q (tupD ds) S' |none=>False)->WO (ds.map λds=>(tupD ds,S')) Q:=by
  intro ds h
  cases ds with
  |none=>exact h.elim
  |some ds=>exact⟨_,_,rfl,h⟩
 cases x with
 |exit j=>exact hq.elim
 |normal=>exact key hq
 |ret=>exact key hq
theorem Ke {o:Option (D×List Ob)} {d:D} {S:List Ob} (h:WO o λr T=>r=d/\T=S):o=some (d,S):=by
 obtain⟨r,T,ho,rfl,rfl⟩:=h
 exact ho
theorem mapO_freeze {T:List Ob} {n:Nat}:∀ {l:List D},Yp l=true->mapO (Xp T (n+1)) l=some l
 | [],_=>rfl
 |d::l,h=>by
  rw[Yc,Kv]at h
  simp only[mapO,Yy h.1,mapO_freeze h.2]
theorem Zw (d:List D) (l:List (List D)):Zc (d::l)=(Yp d && Zc l):=rfl
theorem mapO_freezes {T:List Ob} {n:Nat}:∀ {l:List (List D)},Zc l=true->mapO (mapO (Xp T (n+1))) l=some l
 | [],_=>rfl
 |d::l,h=>by
  rw[Zw,Kv]at h
  simp only[mapO,mapO_freeze h.1,mapO_freezes h.2]
theorem freeze_os {T:List Ob} {n k sz:Nat} {es:List (List D)} {x:Bool} (h:T[k]?=some (.row sz es)) (hp:Zc es=true):Xp T (n+2) (.os k 0 es.length x)=some (.sl sz es x):=by
 unfold Xp
 rw[if_neg (by simp[D.pure])]
 dsimp only
 rw[h]
 simp only[Nat.zero_add,Uk,if_true,List.drop_zero,Vi,mapO_freezes hp,Vm]
theorem setC {α:Type} {l:List α} {i j:Nat} {v:α}:(l.set i v)[j]?=if i=j then (if i<l.length then some v else none) else l[j]? :=List.getElem?_set
def gQR (a:List D) (P:Prop):Nat×D->List (Nat×D)->Prop
 |(k,d),[]=>a[k]?=some d/\P
 |(k,d),q::r=>a[k]?=some d/\gQR a P q r
def gQ (a:List D) (n:Nat) (P:Prop):List (Nat×D)->Prop
 |[]=>a.length=n/\P
 |p::r=>a.length=n/\gQR a P p r
attribute [push_cast] gQ gQR
theorem aQ1 {a:List D} {x0:D} (h:∀i,i<[x0].length->a[i]?=[x0][i]?):a[0]?=some x0:=h 0 (by simp)
theorem aQ2 {a:List D} {x0 x1:D} (h:∀i,i<[x0,x1].length->a[i]?=[x0,x1][i]?):a[0]?=some x0/\a[1]?=some x1:=⟨h 0 (by simp),h 1 (by simp)⟩
theorem aQ3 {a:List D} {x0 x1 x2:D} (h:∀i,i<[x0,x1,x2].length->a[i]?=[x0,x1,x2][i]?):a[0]?=some x0/\a[1]?=some x1/\a[2]?=some x2:=⟨h 0 (by simp),h 1 (by simp),h 2 (by simp)⟩
theorem aQ4 {a:List D} {x0 x1 x2 x3:D} (h:∀i,i<[x0,x1,x2,x3].length->a[i]?=[x0,x1,x2,x3][i]?):a[0]?=some x0/\a[1]?=some x1/\a[2]?=some x2/\a[3]?=some x3:=⟨h 0 (by simp),h 1 (by simp),h 2 (by simp),h 3 (by simp)⟩
theorem aQ5 {a:List D} {x0 x1 x2 x3 x4:D} (h:∀i,i<[x0,x1,x2,x3,x4].length->a[i]?=[x0,x1,x2,x3,x4][i]?):a[0]?=some x0/\a[1]?=some x1/\a[2]?=some x2/\a[3]?=some x3/\a[4]?=some x4:=⟨h 0 (by simp),h 1 (by simp),h 2 (by simp),h 3 (by simp),h 4 (by simp)⟩
theorem aQ6 {a:List D} {x0 x1 x2 x3 x4 x5:D} (h:∀i,i<[x0,x1,x2,x3,x4,x5].length->a[i]?=[x0,x1,x2,x3,x4,x5][i]?):a[0]?=some x0/\a[1]?=some x1/\a[2]?=some x2/\a[3]?=some x3/\a[4]?=some x4/\a[5]?=some x5:=⟨h 0 (by simp),h 1 (by simp),h 2 (by simp),h 3 (by simp),h 4 (by simp),h 5 (by simp)⟩
theorem aQ7 {a:List D} {x0 x1 x2 x3 x4 x5 x6:D} (h:∀i,i<[x0,x1,x2,x3,x4,x5,x6].length->a[i]?=[x0,x1,x2,x3,x4,x5,x6][i]?):a[0]?=some x0/\a[1]?=some x1/\a[2]?=some x2/\a[3]?=some x3/\a[4]?=some x4/\a[5]?=some x5/\a[6]?=some x6:=⟨h 0 (by simp),h 1 (by simp),h 2 (by simp),h 3 (by simp),h 4 (by simp),h 5 (by simp),h 6 (by simp)⟩
theorem aQ8 {a:List D} {x0 x1 x2 x3 x4 x5 x6 x7:D} (h:∀i,i<[x0,x1,x2,x3,x4,x5,x6,x7].length->a[i]?=[x0,x1,x2,x3,x4,x5,x6,x7][i]?):a[0]?=some x0/\a[1]?=some x1/\a[2]?=some x2/\a[3]?=some x3/\a[4]?=some x4/\a[5]?=some x5/\a[6]?=some x6/\a[7]?=some x7:=⟨h 0 (by simp),h 1 (by simp),h 2 (by simp),h 3 (by simp),h 4 (by simp),h 5 (by simp),h 6 (by simp),h 7 (by simp)⟩
theorem aQ9 {a:List D} {x0 x1 x2 x3 x4 x5 x6 x7 x8:D} (h:∀i,i<[x0,x1,x2,x3,x4,x5,x6,x7,x8].length->a[i]?=[x0,x1,x2,x3,x4,x5,x6,x7,x8][i]?):a[0]?=some x0/\a[1]?=some x1/\a[2]?=some x2/\a[3]?=some x3/\a[4]?=some x4/\a[5]?=some x5/\a[6]?=some x6/\a[7]?=some x7/\a[8]?=some x8:=⟨h 0 (by simp),h 1 (by simp),h 2 (by simp),h 3 (by simp),h 4 (by simp),h 5 (by simp),h 6 (by simp),h 7 (by simp),h 8 (by simp)⟩
end Go.Proofs.YtaklebjoenophaaGreat.Dm
