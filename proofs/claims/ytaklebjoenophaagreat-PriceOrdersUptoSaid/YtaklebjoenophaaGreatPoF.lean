/-
  The reference's levels of surcharges, local times and days: they answer.
  The reference's rules and routings of a tariff, exactly: found in the list, or the zero value; links, and whether a way is allowed.
-/
import Derived.Test.YtaklebjoenophaaGreatPoC
import Derived.Test.YtaklebjoenophaaGreatTfA
import Derived.Test.YtaklebjoenophaaGreatPlA
set_option linter.unusedSimpArgs false
set_option linter.unusedVariables false
namespace Go.Proofs.YtaklebjoenophaaGreat.Dm
open Go Gw
set_option linter.unusedSimpArgs false
set_option linter.unusedSimpArgs false
section
variable {n : Nat}
set_option maxHeartbeats 8000000 in
set_option maxRecDepth 100000 in
theorem level23_c (hn:100≤n) (x y:Int):∃q e:Int,∀st S,callD E (dcall E n) st S 142 [.int .i64 x,.int .i64 y]=some (.tup [.int .i64 q,.int .i64 e],S):=by
 obtain⟨m,rfl⟩:∃m,n=m+1:=⟨n-1,by omega⟩
 have:WO (dcall E (m+1) 142 [.int .i64 x,.int .i64 y] []) fun r T=>∃p q:Int,r=.tup [.int .i64 p,.int .i64 q]:=by
  refine wo_dcall Tryz.func142 rfl (by decide) rfl 33 rfl (fun a hal ha=>?_)
  have h0:a[0]? =some (.int .i64 x):=ha 0 (by simp)
  have h1:a[1]? =some (.int .i64 y):=ha 1 (by simp)
  clear ha
  by_cases c1:x<0
  ·simp(maxSteps:=1000000)(disch:=omega)only[push_cast,decide_not,decide_eq_true_eq,decide_eq_false_iff_not,bne_eq_false_iff_eq,beq_eq_false_iff_ne,gt_iff_lt,ne_eq,not_true_eq_false,not_false_eq_true,hal,h0,h1,c1,Tryz.f142,↓WX,simprocAttr]
   exact⟨_,_,rfl⟩
  by_cases c2:1099511627776<x
  ·simp(maxSteps:=1000000)(disch:=omega)only[push_cast,decide_not,decide_eq_true_eq,decide_eq_false_iff_not,bne_eq_false_iff_eq,beq_eq_false_iff_ne,gt_iff_lt,ne_eq,not_true_eq_false,not_false_eq_true,hal,h0,h1,c1,c2,Tryz.f142,↓WX,simprocAttr]
   exact⟨_,_,rfl⟩
  by_cases c3:y<1
  ·simp(maxSteps:=1000000)(disch:=omega)only[push_cast,decide_not,decide_eq_true_eq,decide_eq_false_iff_not,bne_eq_false_iff_eq,beq_eq_false_iff_ne,gt_iff_lt,ne_eq,not_true_eq_false,not_false_eq_true,hal,h0,h1,c1,c2,c3,Tryz.f142,↓WX,simprocAttr]
   exact⟨_,_,rfl⟩
  by_cases c4:1099511627776<y
  ·simp(maxSteps:=1000000)(disch:=omega)only[push_cast,decide_not,decide_eq_true_eq,decide_eq_false_iff_not,bne_eq_false_iff_eq,beq_eq_false_iff_ne,gt_iff_lt,ne_eq,not_true_eq_false,not_false_eq_true,hal,h0,h1,c1,c2,c3,c4,Tryz.f142,↓WX,simprocAttr]
   exact⟨_,_,rfl⟩
  simp(maxSteps:=1000000)(disch:=omega)only[push_cast,decide_not,decide_eq_true_eq,decide_eq_false_iff_not,bne_eq_false_iff_eq,beq_eq_false_iff_ne,gt_iff_lt,ne_eq,not_true_eq_false,not_false_eq_true,hal,h0,h1,c1,c2,c3,c4,↓WX,simprocAttr]
  refine wl_loop (fun i a T=>(T=[]∧∃p:Int,a[6]? =some (.int .i64 p)∧p=5*(i:Int))∧a.length=33∧a[0]? =some (.int .i64 x)∧a[1]? =some (.int .i64 y)) 6 ?_ (by omega) ?_
  ·simp(maxSteps:=1000000)(disch:=omega)only[push_cast,decide_not,decide_eq_true_eq,decide_eq_false_iff_not,bne_eq_false_iff_eq,beq_eq_false_iff_ne,gt_iff_lt,ne_eq,not_true_eq_false,not_false_eq_true,hal,h0,h1,Int.natCast_zero,↓WX,simprocAttr]
   exact⟨_,rfl,rfl⟩
  clear hal h0 h1 a
  rintro i a T hi ⟨⟨rfl,p,h6,hp⟩,hal,h0,h1⟩
  by_cases c5:p≤25
  case neg=>
   simp(maxSteps:=1000000)(disch:=omega)only[push_cast,decide_not,decide_eq_true_eq,decide_eq_false_iff_not,bne_eq_false_iff_eq,beq_eq_false_iff_ne,gt_iff_lt,ne_eq,not_true_eq_false,not_false_eq_true,hal,h0,h1,h6,c5,Tryz.f142,↓WX,simprocAttr]
   exact⟨_,_,rfl⟩
  have hi6:i<6:=by omega
  cases e:decide (x*100≤IntKind.i64.wrap (y*(100+p)))
  ·simp(maxSteps:=1000000)(disch:=omega)only[push_cast,decide_not,decide_eq_true_eq,decide_eq_false_iff_not,bne_eq_false_iff_eq,beq_eq_false_iff_ne,gt_iff_lt,ne_eq,not_true_eq_false,not_false_eq_true,hal,h0,h1,h6,c5,e,hi6,wrap_ok,↓WX,simprocAttr]
   exact⟨_,rfl,by push_cast;omega⟩
  ·simp(maxSteps:=1000000)(disch:=omega)only[push_cast,decide_not,decide_eq_true_eq,decide_eq_false_iff_not,bne_eq_false_iff_eq,beq_eq_false_iff_ne,gt_iff_lt,ne_eq,not_true_eq_false,not_false_eq_true,hal,h0,h1,h6,c5,e,wrap_ok,Tryz.f142,↓WX,simprocAttr]
   exact⟨_,_,rfl⟩
 obtain⟨_,T,ho,q,r,rfl⟩:=this
 exact⟨q,r,fun st S=>callD_pure rfl rfl ho rfl⟩
set_option maxHeartbeats 8000000 in
set_option maxRecDepth 100000 in
theorem apply23_c (hn:100≤n) (x y:Int):∃q e:Int,∀st S,callD E (dcall E n) st S 88 [.int .i64 x,.int .i64 y]=some (.tup [.int .i64 q,.int .i64 e],S):=by
 obtain⟨m,rfl⟩:∃m,n=m+1:=⟨n-1,by omega⟩
 obtain⟨fq,fe,hf⟩:∃fq fe:Int→Int,∀(y:Int) st S,callD E (dcall E m) st S 143 [.int .i64 x,.int .i64 y]=some (.tup [.int .i64 (fq y),.int .i64 (fe y)],S):=
  ⟨fun y=>(percent02_c (n:=m) (by omega) x y).choose,fun y=>(percent02_c (n:=m) (by omega) x y).choose_spec.choose,fun y=>(percent02_c (n:=m) (by omega) x y).choose_spec.choose_spec⟩
 have:WO (dcall E (m+1) 88 [.int .i64 x,.int .i64 y] []) fun r T=>∃p q:Int,r=.tup [.int .i64 p,.int .i64 q]:=by
  refine wo_dcall Tryz.func88 rfl (by decide) rfl 21 rfl (fun a hal ha=>?_)
  have h0:a[0]? =some (.int .i64 x):=ha 0 (by simp)
  have h1:a[1]? =some (.int .i64 y):=ha 1 (by simp)
  clear ha
  simp(maxSteps:=1000000)(disch:=omega)only[push_cast,decide_not,decide_eq_true_eq,decide_eq_false_iff_not,bne_eq_false_iff_eq,beq_eq_false_iff_ne,gt_iff_lt,ne_eq,not_true_eq_false,not_false_eq_true,hal,h0,h1,↓WX,simprocAttr]
  refine wl_loop (fun i a T=>(T=[]∧∃p:Int,a[6]? =some (.int .i64 p)∧p=5*(i:Int))∧a.length=21∧a[0]? =some (.int .i64 x)∧a[1]? =some (.int .i64 y)) 6 ?_ (by omega) ?_
  ·simp(maxSteps:=1000000)(disch:=omega)only[push_cast,decide_not,decide_eq_true_eq,decide_eq_false_iff_not,bne_eq_false_iff_eq,beq_eq_false_iff_ne,gt_iff_lt,ne_eq,not_true_eq_false,not_false_eq_true,hal,h0,h1,Int.natCast_zero,↓WX,simprocAttr]
   exact⟨_,rfl,rfl⟩
  clear hal h0 h1 a
  rintro i a T hi ⟨⟨rfl,p,h6,hp⟩,hal,h0,h1⟩
  by_cases c5:p≤25
  case neg=>
   simp(maxSteps:=1000000)(disch:=omega)only[push_cast,decide_not,decide_eq_true_eq,decide_eq_false_iff_not,bne_eq_false_iff_eq,beq_eq_false_iff_ne,gt_iff_lt,ne_eq,not_true_eq_false,not_false_eq_true,hal,h0,h1,h6,c5,Tryz.f88,↓WX,simprocAttr]
   exact⟨_,_,rfl⟩
  have hi6:i<6:=by omega
  cases e:decide (p=y)
  ·simp(maxSteps:=1000000)(disch:=omega)only[push_cast,decide_not,decide_eq_true_eq,decide_eq_false_iff_not,bne_eq_false_iff_eq,beq_eq_false_iff_ne,gt_iff_lt,ne_eq,not_true_eq_false,not_false_eq_true,hal,h0,h1,h6,c5,e,hi6,wrap_ok,↓WX,simprocAttr]
   exact⟨_,rfl,by push_cast;omega⟩
  ·simp(maxSteps:=1000000)(disch:=omega)only[push_cast,decide_not,decide_eq_true_eq,decide_eq_false_iff_not,bne_eq_false_iff_eq,beq_eq_false_iff_ne,gt_iff_lt,ne_eq,not_true_eq_false,not_false_eq_true,hal,h0,h1,h6,c5,e,hf,wrap_ok,Tryz.f88,↓WX,simprocAttr]
   exact⟨_,_,rfl⟩
 obtain⟨_,T,ho,q,r,rfl⟩:=this
 exact⟨q,r,fun st S=>callD_pure rfl rfl ho rfl⟩
end
end Go.Proofs.YtaklebjoenophaaGreat.Dm
namespace Go.Proofs.YtaklebjoenophaaGreat.Dm
open Go Gw
set_option linter.unusedSimpArgs false
set_option linter.unusedSimpArgs false
def rouD:Option Rou→D
 |some r=>.agg r.enc
 |none=>.agg [.int .i64 0,.nils,.int .i64 0]
theorem rouD_pure (o:Option Rou):(rouD o).pure=true:=by
 cases o with
 |none=>rfl
 |some r=>simp only[rouD,D.pure,Rou_pure]
def rulD:Option Rul→D
 |some r=>.agg r.enc
 |none=>.agg [.int .i64 0,.int .i64 0,.nils,.int .i64 0,.int .i64 0,.int .i64 0,.int .i64 0,.int .i64 0,.nils,.nils,.int .i64 0,.int .i64 0,.int .i64 0,.int .i64 0,.nils]
theorem rulD_pure (o:Option Rul):(rulD o).pure=true:=by
 cases o with
 |none=>rfl
 |some r=>simp only[rulD,D.pure,Rul_pure]
def linkF (s t:ByteArray):List (ByteArray×ByteArray)→Int→Int
 | [],_=> -1
 |x::xs,i=>if x.1=s∧x.2=t then i else linkF s t xs (i+1)
section
variable {n : Nat}
set_option maxHeartbeats 4000000 in
set_option maxRecDepth 100000 in
theorem Routing24_x (fe re te:List (List D)) (fx rx tx:Bool) (l:List Rou) (lx:Bool) (hf:pureLL fe=true) (hr:pureLL re=true) (ht:pureLL te=true) (hl:l.length≤1048576) (hn:1048580≤n) (k:Int):∀st S,callD E (dcall E n) st S 84 [.agg [.sl 9 fe fx,.sl 15 re rx,.sl 3 (l.map Rou.enc) lx,.sl 7 te tx],.int .i64 k]=some (.tup [rouD (l.find? fun r=>decide (r.num=k)),.bool (l.find? fun r=>decide (r.num=k)).isSome],S):=by
 obtain⟨m,rfl⟩:∃m,n=m+1:=⟨n-1,by omega⟩
 have:WO (dcall E (m+1) 84 [.agg [.sl 9 fe fx,.sl 15 re rx,.sl 3 (l.map Rou.enc) lx,.sl 7 te tx],.int .i64 k] []) fun r T=>r=.tup [rouD (l.find? fun r=>decide (r.num=k)),.bool (l.find? fun r=>decide (r.num=k)).isSome]:=by
  refine wo_dcall Tryz.func84 rfl (by decide) rfl 28 rfl (fun a hal ha=>?_)
  have h0:a[0]? =some (.agg [.sl 9 fe fx,.sl 15 re rx,.sl 3 (l.map Rou.enc) lx,.sl 7 te tx]):=ha 0 (by simp)
  have h1:a[1]? =some (.int .i64 k):=ha 1 (by simp)
  clear ha
  obtain⟨q,hq⟩:∃q,q=l.find? fun r=>decide (r.num=k):=⟨_,rfl⟩
  rw[←hq]
  simp(maxSteps:=1000000)(disch:=omega)only[push_cast,decide_not,decide_eq_true_eq,decide_eq_false_iff_not,bne_eq_false_iff_eq,beq_eq_false_iff_ne,gt_iff_lt,ne_eq,not_true_eq_false,not_false_eq_true,hal,h0,h1,↓WX,simprocAttr]
  refine wl_loop (fun i a T=>(T=[Ob.row 4 [[.sl 9 fe fx,.sl 15 re rx,.sl 3 (l.map Rou.enc) lx,.sl 7 te tx]],Ob.row 3 [[.int .i64 0,.nils,.int .i64 0]]]∧q=(l.drop i).find? fun r=>decide (r.num=k))∧a.length=28∧a[1]? =some (.int .i64 k)∧a[2]? =some (.loc 0 0 0)∧a[4]? =some (.loc 1 0 0)∧a[6]? =some (.int .i64 i)) l.length ?_ (by omega) ?_
  ·simp(maxSteps:=1000000)(disch:=omega)only[push_cast,decide_not,decide_eq_true_eq,decide_eq_false_iff_not,bne_eq_false_iff_eq,beq_eq_false_iff_ne,gt_iff_lt,ne_eq,not_true_eq_false,not_false_eq_true,hal,h0,h1,Int.natCast_zero,↓WX,simprocAttr]
   exact hq
  clear hal h0 h1 a
  rintro i a T hi ⟨⟨rfl,e⟩,hal,h1,h2,h4,h6⟩
  rcases Nat.lt_or_eq_of_le hi with hlt |rfl
  case inr=>
   rw[List.drop_length,List.find?_nil]at e
   subst e
   simp(maxSteps:=1000000)(disch:=omega)only[push_cast,decide_not,decide_eq_true_eq,decide_eq_false_iff_not,bne_eq_false_iff_eq,beq_eq_false_iff_ne,gt_iff_lt,ne_eq,not_true_eq_false,not_false_eq_true,hal,h1,h2,h4,h6,Int.lt_irrefl,rouD,Option.isSome_none,Tryz.f84,↓WX,simprocAttr]
  obtain⟨x,hx⟩:∃x,l[i]? =some x:=⟨l[i],by simp⟩
  have hltc:(i:Int)<l.length:=by omega
  rw[drop_at hx,List.find?_cons]at e
  by_cases c:x.num=k
  ·have d1:decide (x.num=k)=true:=decide_eq_true c
   rw[d1]at e
   subst e
   simp(maxSteps:=1000000)(disch:=omega)only[push_cast,decide_not,decide_eq_true_eq,decide_eq_false_iff_not,bne_eq_false_iff_eq,beq_eq_false_iff_ne,gt_iff_lt,ne_eq,not_true_eq_false,not_false_eq_true,hal,h1,h2,h4,h6,hltc,hlt,hx,d1,Rou.enc,rouD,Option.isSome_some,Tryz.f84,↓WX,simprocAttr]
  ·have d1:decide (x.num=k)=false:=decide_eq_false c
   rw[d1]at e
   simp(maxSteps:=1000000)(disch:=omega)only[push_cast,decide_not,decide_eq_true_eq,decide_eq_false_iff_not,bne_eq_false_iff_eq,beq_eq_false_iff_ne,gt_iff_lt,ne_eq,not_true_eq_false,not_false_eq_true,hal,h1,h2,h4,h6,hltc,hlt,hx,d1,Rou.enc,wrap_ok,Int.natCast_add,Int.natCast_one,↓WX,simprocAttr]
   exact e
 obtain⟨_,T,ho,rfl⟩:=this
 exact fun st S=>callD_pure rfl (by simp only[pureL_cons,pureL_nil,D.pure,hf,hr,ht,Rous_pure,Bool.and_true,Bool.and_self]) ho (freeze_pure (by simp only[D.pure,pureL_cons,pureL_nil,rouD_pure,Bool.and_true]))
set_option maxHeartbeats 4000000 in
set_option maxRecDepth 100000 in
theorem Rule24_x (fe oe te:List (List D)) (fx ox tx:Bool) (l:List Rul) (lx:Bool) (hf:pureLL fe=true) (hr:pureLL oe=true) (ht:pureLL te=true) (hl:l.length≤1048576) (hn:1048580≤n) (k:Int):∀st S,callD E (dcall E n) st S 81 [.agg [.sl 9 fe fx,.sl 15 (l.map Rul.enc) lx,.sl 3 oe ox,.sl 7 te tx],.int .i64 k]=some (.tup [rulD (l.find? fun r=>decide (r.num=k)),.bool (l.find? fun r=>decide (r.num=k)).isSome],S):=by
 obtain⟨m,rfl⟩:∃m,n=m+1:=⟨n-1,by omega⟩
 have:WO (dcall E (m+1) 81 [.agg [.sl 9 fe fx,.sl 15 (l.map Rul.enc) lx,.sl 3 oe ox,.sl 7 te tx],.int .i64 k] []) fun r T=>r=.tup [rulD (l.find? fun r=>decide (r.num=k)),.bool (l.find? fun r=>decide (r.num=k)).isSome]:=by
  refine wo_dcall Tryz.func81 rfl (by decide) rfl 28 rfl (fun a hal ha=>?_)
  have h0:a[0]? =some (.agg [.sl 9 fe fx,.sl 15 (l.map Rul.enc) lx,.sl 3 oe ox,.sl 7 te tx]):=ha 0 (by simp)
  have h1:a[1]? =some (.int .i64 k):=ha 1 (by simp)
  clear ha
  obtain⟨q,hq⟩:∃q,q=l.find? fun r=>decide (r.num=k):=⟨_,rfl⟩
  rw[←hq]
  simp(maxSteps:=1000000)(disch:=omega)only[push_cast,decide_not,decide_eq_true_eq,decide_eq_false_iff_not,bne_eq_false_iff_eq,beq_eq_false_iff_ne,gt_iff_lt,ne_eq,not_true_eq_false,not_false_eq_true,hal,h0,h1,↓WX,simprocAttr]
  refine wl_loop (fun i a T=>(T=[Ob.row 4 [[.sl 9 fe fx,.sl 15 (l.map Rul.enc) lx,.sl 3 oe ox,.sl 7 te tx]],Ob.row 15 [[.int .i64 0,.int .i64 0,.nils,.int .i64 0,.int .i64 0,.int .i64 0,.int .i64 0,.int .i64 0,.nils,.nils,.int .i64 0,.int .i64 0,.int .i64 0,.int .i64 0,.nils]]]∧q=(l.drop i).find? fun r=>decide (r.num=k))∧a.length=28∧a[1]? =some (.int .i64 k)∧a[2]? =some (.loc 0 0 0)∧a[4]? =some (.loc 1 0 0)∧a[6]? =some (.int .i64 i)) l.length ?_ (by omega) ?_
  ·simp(maxSteps:=1000000)(disch:=omega)only[push_cast,decide_not,decide_eq_true_eq,decide_eq_false_iff_not,bne_eq_false_iff_eq,beq_eq_false_iff_ne,gt_iff_lt,ne_eq,not_true_eq_false,not_false_eq_true,hal,h0,h1,Int.natCast_zero,↓WX,simprocAttr]
   exact hq
  clear hal h0 h1 a
  rintro i a T hi ⟨⟨rfl,e⟩,hal,h1,h2,h4,h6⟩
  rcases Nat.lt_or_eq_of_le hi with hlt |rfl
  case inr=>
   rw[List.drop_length,List.find?_nil]at e
   subst e
   simp(maxSteps:=1000000)(disch:=omega)only[push_cast,decide_not,decide_eq_true_eq,decide_eq_false_iff_not,bne_eq_false_iff_eq,beq_eq_false_iff_ne,gt_iff_lt,ne_eq,not_true_eq_false,not_false_eq_true,hal,h1,h2,h4,h6,Int.lt_irrefl,rulD,Option.isSome_none,Tryz.f81,↓WX,simprocAttr]
  obtain⟨x,hx⟩:∃x,l[i]? =some x:=⟨l[i],by simp⟩
  have hltc:(i:Int)<l.length:=by omega
  obtain⟨w,hw⟩:∃w,x.when=w:=⟨_,rfl⟩
  have hxe:Rul.enc x=.int .i64 x.num::(w.enc++[.sl 1 (x.comb.map encZ) x.combx,.int .i64 x.mins,.int .i64 x.maxs,.int .i64 x.chg,.int .i64 x.ref,.sl 2 (x.pcs.map encPc) x.pcx]):=by rw[←hw];rfl
  cases w with |mk k' l' lx' u' v' pf' pt' pd' t' tx'=>?_
  simp only[Cnd.enc,List.cons_append,List.nil_append]at hxe
  rw[drop_at hx,List.find?_cons]at e
  by_cases c:x.num=k
  ·have d1:decide (x.num=k)=true:=decide_eq_true c
   rw[d1]at e
   subst e
   simp(maxSteps:=1000000)(disch:=omega)only[push_cast,decide_not,decide_eq_true_eq,decide_eq_false_iff_not,bne_eq_false_iff_eq,beq_eq_false_iff_ne,gt_iff_lt,ne_eq,not_true_eq_false,not_false_eq_true,hal,h1,h2,h4,h6,hltc,hlt,hx,d1,hxe,rulD,Option.isSome_some,Tryz.f81,↓WX,simprocAttr]
  ·have d1:decide (x.num=k)=false:=decide_eq_false c
   rw[d1]at e
   simp(maxSteps:=1000000)(disch:=omega)only[push_cast,decide_not,decide_eq_true_eq,decide_eq_false_iff_not,bne_eq_false_iff_eq,beq_eq_false_iff_ne,gt_iff_lt,ne_eq,not_true_eq_false,not_false_eq_true,hal,h1,h2,h4,h6,hltc,hlt,hx,d1,hxe,wrap_ok,Int.natCast_add,Int.natCast_one,↓WX,simprocAttr]
   exact e
 obtain⟨_,T,ho,rfl⟩:=this
 exact fun st S=>callD_pure rfl (by simp only[pureL_cons,pureL_nil,D.pure,hf,hr,ht,Ruls_pure,Bool.and_true,Bool.and_self]) ho (freeze_pure (by simp only[D.pure,pureL_cons,pureL_nil,rulD_pure,Bool.and_true]))
end
end Go.Proofs.YtaklebjoenophaaGreat.Dm
