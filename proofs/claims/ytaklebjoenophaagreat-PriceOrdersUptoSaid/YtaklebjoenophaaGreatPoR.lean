/-
  The stay that a rule asks, and whether two rules combine: the reference, exactly.
  Days of a period and conditions of a rule: the reference, exactly.
-/
import Derived.Test.YtaklebjoenophaaGreatPoP
import Derived.Test.YtaklebjoenophaaGreatEnvB
set_option linter.unusedSimpArgs false
set_option linter.unusedVariables false
namespace Go.Proofs.YtaklebjoenophaaGreat.Dm
open Go Gw
set_option linter.unusedSimpArgs false
set_option linter.unusedSimpArgs false
def stayF (mn mx u v:Int):Int:=if u<0∨36525≤u∨v<0∨36525≤v then 12 else if v-u<mn∨(0<mx∧mx<v-u) then 24 else 0
def stayR (o:Option Rul) (u v:Int):Int:=match o with |none=>stayF 0 0 u v |some r=>stayF r.mins r.maxs u v
def mixF (o:Option Rul) (v:Int):Bool:=match o with |none=>true |some r=>(r.comb.any fun x=>decide (x=v)) || decide ((r.comb.length:Int)=0)
def numF (o:Option Rul):Int:=match o with |none=>0 |some r=>r.num
def mix2F (a b:Option Rul):Bool:=mixF a (numF b) && mixF b (numF a)
section
variable {n : Nat}
set_option maxHeartbeats 8000000 in
set_option maxRecDepth 100000 in
theorem stay21_x (o:Option Rul) (u v:Int) (hn:1≤n):∀st S,callD E (dcall E n) st S 198 [rulD o,.int .i64 u,.int .i64 v]=some (.int .i64 (stayR o u v),S):=by
 obtain⟨m,rfl⟩:∃m,n=m+1:=⟨n-1,by omega⟩
 have key:∀(c0:Int) (c1 c2:D) (i0 i1 i2 i3 i4 i5:Int) (c8 c9:D) (mn mx ch rf:Int) (c14:D),(c2.one=true∧c8.one=true∧c9.one=true∧c14.one=true)→c1=.int .i64 i0→WO (dcall E (m+1) 198 [.agg [.int .i64 c0,.int .i64 i0,c2,.int .i64 i1,.int .i64 i2,.int .i64 i3,.int .i64 i4,.int .i64 i5,c8,c9,.int .i64 mn,.int .i64 mx,.int .i64 ch,.int .i64 rf,c14],.int .i64 u,.int .i64 v] []) fun r T=>r=.int .i64 (stayF mn mx u v):=by
  intro c0 c1 c2 i0 i1 i2 i3 i4 i5 c8 c9 mn mx ch rf c14 hone _
  simp only[D.one]at hone
  obtain⟨n2,n8,n9,n14⟩:=hone
  obtain⟨q,hq⟩:∃q,q=stayF mn mx u v:=⟨_,rfl⟩
  rw[←hq]
  unfold stayF at hq
  refine wo_dcall Tryz.func198 rfl (by decide) rfl 40 rfl (fun a hal ha=>?_)
  have h0:a[0]? =some (.agg [.int .i64 c0,.int .i64 i0,c2,.int .i64 i1,.int .i64 i2,.int .i64 i3,.int .i64 i4,.int .i64 i5,c8,c9,.int .i64 mn,.int .i64 mx,.int .i64 ch,.int .i64 rf,c14]):=ha 0 (by simp)
  have h1:a[1]? =some (.int .i64 u):=ha 1 (by simp)
  have h2:a[2]? =some (.int .i64 v):=ha 2 (by simp)
  clear ha
  by_cases e1:u<0
  ·simp(maxSteps:=1000000)(disch:=omega)only[push_cast,decide_not,decide_eq_true_eq,decide_eq_false_iff_not,bne_eq_false_iff_eq,beq_eq_false_iff_ne,gt_iff_lt,ne_eq,not_true_eq_false,not_false_eq_true,hal,h0,h1,h2,n2,n8,n9,n14,e1,Tryz.f198,↓WX,simprocAttr]
   rw[hq,if_pos (by omega)]
  by_cases e2:36525≤u
  ·simp(maxSteps:=1000000)(disch:=omega)only[push_cast,decide_not,decide_eq_true_eq,decide_eq_false_iff_not,bne_eq_false_iff_eq,beq_eq_false_iff_ne,gt_iff_lt,ne_eq,not_true_eq_false,not_false_eq_true,hal,h0,h1,h2,n2,n8,n9,n14,e1,e2,ge_iff_le,Tryz.f198,↓WX,simprocAttr]
   rw[hq,if_pos (by omega)]
  by_cases e3:v<0
  ·simp(maxSteps:=1000000)(disch:=omega)only[push_cast,decide_not,decide_eq_true_eq,decide_eq_false_iff_not,bne_eq_false_iff_eq,beq_eq_false_iff_ne,gt_iff_lt,ne_eq,not_true_eq_false,not_false_eq_true,hal,h0,h1,h2,n2,n8,n9,n14,e1,e2,e3,ge_iff_le,Tryz.f198,↓WX,simprocAttr]
   rw[hq,if_pos (by omega)]
  by_cases e4:36525≤v
  ·simp(maxSteps:=1000000)(disch:=omega)only[push_cast,decide_not,decide_eq_true_eq,decide_eq_false_iff_not,bne_eq_false_iff_eq,beq_eq_false_iff_ne,gt_iff_lt,ne_eq,not_true_eq_false,not_false_eq_true,hal,h0,h1,h2,n2,n8,n9,n14,e1,e2,e3,e4,ge_iff_le,Tryz.f198,↓WX,simprocAttr]
   rw[hq,if_pos (by omega)]
  rw[if_neg (by omega)]at hq
  by_cases e5:v-u<mn
  ·simp(maxSteps:=1000000)(disch:=omega)only[push_cast,decide_not,decide_eq_true_eq,decide_eq_false_iff_not,bne_eq_false_iff_eq,beq_eq_false_iff_ne,gt_iff_lt,ne_eq,not_true_eq_false,not_false_eq_true,hal,h0,h1,h2,n2,n8,n9,n14,e1,e2,e3,e4,e5,ge_iff_le,wrap_ok,Tryz.f198,↓WX,simprocAttr]
   rw[hq,if_pos (by omega)]
  by_cases e6:0<mx
  case neg=>
   simp(maxSteps:=1000000)(disch:=omega)only[push_cast,decide_not,decide_eq_true_eq,decide_eq_false_iff_not,bne_eq_false_iff_eq,beq_eq_false_iff_ne,gt_iff_lt,ne_eq,not_true_eq_false,not_false_eq_true,hal,h0,h1,h2,n2,n8,n9,n14,e1,e2,e3,e4,e5,e6,ge_iff_le,wrap_ok,Tryz.f198,↓WX,simprocAttr]
   rw[hq,if_neg (by omega)]
  by_cases e7:mx<v-u
  ·simp(maxSteps:=1000000)(disch:=omega)only[push_cast,decide_not,decide_eq_true_eq,decide_eq_false_iff_not,bne_eq_false_iff_eq,beq_eq_false_iff_ne,gt_iff_lt,ne_eq,not_true_eq_false,not_false_eq_true,hal,h0,h1,h2,n2,n8,n9,n14,e1,e2,e3,e4,e5,e6,e7,ge_iff_le,wrap_ok,Tryz.f198,↓WX,simprocAttr]
   rw[hq,if_pos (by omega)]
  ·simp(maxSteps:=1000000)(disch:=omega)only[push_cast,decide_not,decide_eq_true_eq,decide_eq_false_iff_not,bne_eq_false_iff_eq,beq_eq_false_iff_ne,gt_iff_lt,ne_eq,not_true_eq_false,not_false_eq_true,hal,h0,h1,h2,n2,n8,n9,n14,e1,e2,e3,e4,e5,e6,e7,ge_iff_le,wrap_ok,Tryz.f198,↓WX,simprocAttr]
   rw[hq,if_neg (by omega)]
 have:WO (dcall E (m+1) 198 [rulD o,.int .i64 u,.int .i64 v] []) fun r T=>r=.int .i64 (stayR o u v):=by
  cases o with
  |none=>exact key 0 (.int .i64 0) .nils 0 0 0 0 0 0 .nils .nils 0 0 0 0 .nils ⟨rfl,rfl,rfl,rfl⟩ rfl
  |some r=>
   obtain⟨w,hw⟩:∃w,r.when=w:=⟨_,rfl⟩
   have hxe:Rul.enc r=.int .i64 r.num::(w.enc++[.sl 1 (r.comb.map encZ) r.combx,.int .i64 r.mins,.int .i64 r.maxs,.int .i64 r.chg,.int .i64 r.ref,.sl 2 (r.pcs.map encPc) r.pcx]):=by rw[←hw];rfl
   cases w with |mk k' l' lx' u' v' pf' pt' pd' t' tx'=>?_
   simp only[Cnd.enc,List.cons_append,List.nil_append]at hxe
   simp only[rulD,hxe,stayR]
   exact key _ _ _ _ _ _ _ _ _ _ _ _ _ _ _ _ ⟨rfl,rfl,rfl,rfl⟩ rfl
 obtain⟨_,T,hr,rfl⟩:=this
 exact fun st S=>callD_pure rfl (by simp only[pureL_cons,pureL_nil,rulD_pure,D.pure,Bool.and_true]) hr rfl
set_option maxHeartbeats 8000000 in
set_option maxRecDepth 100000 in
theorem mixes21_x (o:Option Rul) (ho:∀r,o=some r→r.comb.length≤1048576) (v:Int) (hn:1048590≤n):∀st S,callD E (dcall E n) st S 196 [rulD o,.int .i64 v]=some (.bool (mixF o v),S):=by
 obtain⟨m,rfl⟩:∃m,n=m+1:=⟨n-1,by omega⟩
 have:WO (dcall E (m+1) 196 [rulD o,.int .i64 v] []) fun r T=>r=.bool (mixF o v):=by
  cases o with
  |none=>
   simp only[rulD,mixF]
   refine wo_dcall Tryz.func196 rfl (by decide) rfl 24 rfl (fun a hal ha=>?_)
   have h0:a[0]? =some (.agg [.int .i64 0,.int .i64 0,.nils,.int .i64 0,.int .i64 0,.int .i64 0,.int .i64 0,.int .i64 0,.nils,.nils,.int .i64 0,.int .i64 0,.int .i64 0,.int .i64 0,.nils]):=ha 0 (by simp)
   have h1:a[1]? =some (.int .i64 v):=ha 1 (by simp)
   clear ha
   simp(maxSteps:=1000000)(disch:=omega)only[push_cast,decide_not,decide_eq_true_eq,decide_eq_false_iff_not,bne_eq_false_iff_eq,beq_eq_false_iff_ne,gt_iff_lt,ne_eq,not_true_eq_false,not_false_eq_true,hal,h0,h1,↓WX,simprocAttr]
   refine wl_loop (fun i a T=>T=[Ob.row 15 [[.int .i64 0,.int .i64 0,.nils,.int .i64 0,.int .i64 0,.int .i64 0,.int .i64 0,.int .i64 0,.nils,.nils,.int .i64 0,.int .i64 0,.int .i64 0,.int .i64 0,.nils]]]∧a.length=24∧a[1]? =some (.int .i64 v)∧a[2]? =some (.loc 0 0 0)∧a[5]? =some (.int .i64 0)) 0 ?_ (by omega) ?_
   ·simp(maxSteps:=1000000)(disch:=omega)only[push_cast,decide_not,decide_eq_true_eq,decide_eq_false_iff_not,bne_eq_false_iff_eq,beq_eq_false_iff_ne,gt_iff_lt,ne_eq,not_true_eq_false,not_false_eq_true,hal,h0,h1,↓WX,simprocAttr]
   clear hal h0 h1 a
   rintro i a T hi ⟨rfl,hal,h1,h2,h5⟩
   simp(maxSteps:=1000000)(disch:=omega)only[push_cast,decide_not,decide_eq_true_eq,decide_eq_false_iff_not,bne_eq_false_iff_eq,beq_eq_false_iff_ne,gt_iff_lt,ne_eq,not_true_eq_false,not_false_eq_true,hal,h1,h2,h5,Int.lt_irrefl,decide_true,Tryz.f196,↓WX,simprocAttr]
  |some r=>
   have hl:=ho r rfl
   obtain⟨w,hw⟩:∃w,r.when=w:=⟨_,rfl⟩
   have hxe:Rul.enc r=.int .i64 r.num::(w.enc++[.sl 1 (r.comb.map encZ) r.combx,.int .i64 r.mins,.int .i64 r.maxs,.int .i64 r.chg,.int .i64 r.ref,.sl 2 (r.pcs.map encPc) r.pcx]):=by rw[←hw];rfl
   cases w with |mk k' l' lx' u' v' pf' pt' pd' t' tx'=>?_
   simp only[Cnd.enc,List.cons_append,List.nil_append]at hxe
   simp only[rulD,mixF]
   obtain⟨B,hB⟩:∃B:Ob,B=Ob.row 15 [r.enc]:=⟨_,rfl⟩
   obtain⟨q,hq⟩:∃q,q=((r.comb.any fun x=>decide (x=v)) || decide ((r.comb.length:Int)=0)):=⟨_,rfl⟩
   rw[←hq]

   refine wo_dcall Tryz.func196 rfl (by decide) rfl 24 rfl (fun a hal ha=>?_)
   have h0:a[0]? =some (.agg r.enc):=ha 0 (by simp)
   have h1:a[1]? =some (.int .i64 v):=ha 1 (by simp)
   clear ha
   rw[hxe]at h0 hB
   refine wc_scut (fun a V=>V=[B]∧a.length=24∧a[1]? =some (.int .i64 v)∧a[2]? =some (.loc 0 0 0)) ?_ ?_
   ·simp(maxSteps:=1000000)(disch:=omega)only[push_cast,decide_not,decide_eq_true_eq,decide_eq_false_iff_not,bne_eq_false_iff_eq,beq_eq_false_iff_ne,gt_iff_lt,ne_eq,not_true_eq_false,not_false_eq_true,hal,h0,h1,↓WX,simprocAttr]
    rw[hB]
   clear hal h0 h1 a
   rintro a V ⟨hV,hal,h1,h2⟩
   have g0:V[0]? =some B:=by rw[hV];rfl
   rw[hB]at g0
   clear hV hB
   simp(maxSteps:=1000000)(disch:=omega)only[push_cast,decide_not,decide_eq_true_eq,decide_eq_false_iff_not,bne_eq_false_iff_eq,beq_eq_false_iff_ne,gt_iff_lt,ne_eq,not_true_eq_false,not_false_eq_true,hal,h1,h2,↓WX,simprocAttr]
   refine wl_loop (fun i a T=>(T=V∧q=(((r.comb.drop i).any fun x=>decide (x=v)) || decide ((r.comb.length:Int)=0)))∧a.length=24∧a[1]? =some (.int .i64 v)∧a[2]? =some (.loc 0 0 0)∧a[5]? =some (.int .i64 i)) r.comb.length ?_ (by omega) ?_
   ·simp(maxSteps:=1000000)(disch:=omega)only[push_cast,decide_not,decide_eq_true_eq,decide_eq_false_iff_not,bne_eq_false_iff_eq,beq_eq_false_iff_ne,gt_iff_lt,ne_eq,not_true_eq_false,not_false_eq_true,hal,h1,h2,Int.natCast_zero,↓WX,simprocAttr]
    exact hq
   clear hal h1 h2 a
   rintro i a T hi ⟨⟨rfl,e⟩,hal,h1,h2,h5⟩
   clear hq
   rcases Nat.lt_or_eq_of_le hi with hlt |he
   case inr=>
    rw[he,List.drop_length,List.any_nil,Bool.false_or]at e
    subst he
    simp(maxSteps:=1000000)(disch:=omega)only[push_cast,decide_not,decide_eq_true_eq,decide_eq_false_iff_not,bne_eq_false_iff_eq,beq_eq_false_iff_ne,gt_iff_lt,ne_eq,not_true_eq_false,not_false_eq_true,hal,h1,h2,h5,g0,Int.lt_irrefl,Tryz.f196,↓WX,simprocAttr]
    rw[e]
   have hltc:(i:Int)<r.comb.length:=by omega
   obtain⟨x,hx⟩:∃x,r.comb[i]? =some x:=⟨r.comb[i],by simp⟩
   rw[drop_at hx,List.any_cons]at e
   cases e1:decide (x=v)
   ·rw[e1,Bool.false_or]at e
    simp(maxSteps:=1000000)(disch:=omega)only[push_cast,decide_not,decide_eq_true_eq,decide_eq_false_iff_not,bne_eq_false_iff_eq,beq_eq_false_iff_ne,gt_iff_lt,ne_eq,not_true_eq_false,not_false_eq_true,hal,h1,h2,h5,g0,hltc,hlt,hx,e1,encZ,wrap_ok,Int.natCast_add,Int.natCast_one,↓WX,simprocAttr]
    exact e
   ·rw[e1,Bool.true_or,Bool.true_or]at e
    subst e
    simp(maxSteps:=1000000)(disch:=omega)only[push_cast,decide_not,decide_eq_true_eq,decide_eq_false_iff_not,bne_eq_false_iff_eq,beq_eq_false_iff_ne,gt_iff_lt,ne_eq,not_true_eq_false,not_false_eq_true,hal,h1,h2,h5,g0,hltc,hlt,hx,e1,encZ,Tryz.f196,↓WX,simprocAttr]
 obtain⟨_,T,hr,rfl⟩:=this
 exact fun st S=>callD_pure rfl (by simp only[pureL_cons,pureL_nil,rulD_pure,D.pure,Bool.and_true]) hr rfl
theorem rul_lit (o:Option Rul):∃c1 c2 c3 c4 c5 c6 c7 c8 c9 c10 c11 c12 c13 c14:D,rulD o=.agg [.int .i64 (numF o),c1,c2,c3,c4,c5,c6,c7,c8,c9,c10,c11,c12,c13,c14]∧(c1.one=true∧c2.one=true∧c3.one=true∧c4.one=true∧c5.one=true∧c6.one=true∧c7.one=true)∧c8.one=true∧c9.one=true∧c10.one=true∧c11.one=true∧c12.one=true∧c13.one=true∧c14.one=true:=by
 cases o with
 |none=>exact⟨_,_,_,_,_,_,_,_,_,_,_,_,_,_,rfl,⟨rfl,rfl,rfl,rfl,rfl,rfl,rfl⟩,rfl,rfl,rfl,rfl,rfl,rfl,rfl⟩
 |some r=>
  obtain⟨w,hw⟩:∃w,r.when=w:=⟨_,rfl⟩
  have hxe:Rul.enc r=.int .i64 r.num::(w.enc++[.sl 1 (r.comb.map encZ) r.combx,.int .i64 r.mins,.int .i64 r.maxs,.int .i64 r.chg,.int .i64 r.ref,.sl 2 (r.pcs.map encPc) r.pcx]):=by rw[←hw];rfl
  cases w with |mk k' l' lx' u' v' pf' pt' pd' t' tx'=>?_
  simp only[Cnd.enc,List.cons_append,List.nil_append]at hxe
  simp only[rulD,hxe,numF]
  exact⟨_,_,_,_,_,_,_,_,_,_,_,_,_,_,rfl,⟨rfl,rfl,rfl,rfl,rfl,rfl,rfl⟩,rfl,rfl,rfl,rfl,rfl,rfl,rfl⟩
set_option maxHeartbeats 8000000 in
set_option maxRecDepth 100000 in
theorem Mix21_x (o p:Option Rul) (ho:∀r,o=some r→r.comb.length≤1048576) (hp:∀r,p=some r→r.comb.length≤1048576) (hn:1048600≤n):∀st S,callD E (dcall E n) st S 144 [rulD o,rulD p]=some (.bool (mix2F o p),S):=by
 obtain⟨m,rfl⟩:∃m,n=m+1:=⟨n-1,by omega⟩
 have c1:=mixes21_x (n:=m) o ho (numF p) (by omega)
 have c2:=mixes21_x (n:=m) p hp (numF o) (by omega)
 have po:=rulD_pure o
 have pp:=rulD_pure p
 obtain⟨x1,x2,x3,x4,x5,x6,x7,x8,x9,x10,x11,x12,x13,x14,hx,⟨g1,g2,g3,g4,g5,g6,g7⟩,g8,g9,g10,g11,g12,g13,g14⟩:=rul_lit o
 obtain⟨y1,y2,y3,y4,y5,y6,y7,y8,y9,y10,y11,y12,y13,y14,hy,⟨k1,k2,k3,k4,k5,k6,k7⟩,k8,k9,k10,k11,k12,k13,k14⟩:=rul_lit p
 rw[hx]at c1 po ⊢
 rw[hy]at c2 pp ⊢
 unfold mix2F
 simp only[D.one]at g1 g2 g3 g4 g5 g6 g7 g8 g9 g10 g11 g12 g13 g14 k1 k2 k3 k4 k5 k6 k7 k8 k9 k10 k11 k12 k13 k14
 have:WO (dcall E (m+1) 144 [.agg [.int .i64 (numF o),x1,x2,x3,x4,x5,x6,x7,x8,x9,x10,x11,x12,x13,x14],.agg [.int .i64 (numF p),y1,y2,y3,y4,y5,y6,y7,y8,y9,y10,y11,y12,y13,y14]] []) fun r T=>r=.bool (mixF o (numF p) && mixF p (numF o)):=by
  generalize mixF o (numF p)=b1 at*
  generalize mixF p (numF o)=b2 at*
  generalize numF o=no at*
  generalize numF p=np at*
  refine wo_dcall Tryz.func144 rfl (by decide) rfl 15 rfl (fun a hal ha=>?_)
  have h0:a[0]? =some (.agg [.int .i64 no,x1,x2,x3,x4,x5,x6,x7,x8,x9,x10,x11,x12,x13,x14]):=ha 0 (by simp)
  have h1:a[1]? =some (.agg [.int .i64 np,y1,y2,y3,y4,y5,y6,y7,y8,y9,y10,y11,y12,y13,y14]):=ha 1 (by simp)
  clear ha
  cases b1
  ·simp(maxSteps:=1000000)(disch:=omega)only[push_cast,decide_not,decide_eq_true_eq,decide_eq_false_iff_not,bne_eq_false_iff_eq,beq_eq_false_iff_ne,gt_iff_lt,ne_eq,not_true_eq_false,not_false_eq_true,hal,h0,h1,c1,g1,g2,g3,g4,g5,g6,g7,g8,g9,g10,g11,g12,g13,g14,k1,k2,k3,k4,k5,k6,k7,k8,k9,k10,k11,k12,k13,k14,Bool.false_and,Tryz.f144,↓WX,simprocAttr]
  ·simp(maxSteps:=1000000)(disch:=omega)only[push_cast,decide_not,decide_eq_true_eq,decide_eq_false_iff_not,bne_eq_false_iff_eq,beq_eq_false_iff_ne,gt_iff_lt,ne_eq,not_true_eq_false,not_false_eq_true,hal,h0,h1,c1,c2,g1,g2,g3,g4,g5,g6,g7,g8,g9,g10,g11,g12,g13,g14,k1,k2,k3,k4,k5,k6,k7,k8,k9,k10,k11,k12,k13,k14,Bool.true_and,Tryz.f144,↓WX,simprocAttr]
 obtain⟨_,T,hr,rfl⟩:=this
 exact fun st S=>callD_pure rfl (by simp only[pureL_cons,pureL_nil,po,pp,Bool.and_true]) hr rfl
end
end Go.Proofs.YtaklebjoenophaaGreat.Dm
namespace Go.Proofs.YtaklebjoenophaaGreat.Dm
open Go Gw
set_option linter.unusedSimpArgs false
set_option linter.unusedSimpArgs false
def wdF (x:Int):Nat:=((x.tmod 7+12).tmod 7).toNat
theorem wdF_le (x:Int):wdF x≤6:=by
 obtain⟨h1,h2⟩:=tmod_pos (a:=x) (b:=7) (by omega)
 have h4:=Int.tmod_lt_of_pos (x.tmod 7+12) (b:=7) (by omega)
 unfold wdF
 omega
def chkF (f t d:Int):Int:=if f<0∨t<f∨36525≤t then 12 else if 800≤t-f then 4 else if d<1∨127<d then 2 else 0
def perF (f t d x:Int):Bool:=decide (chkF f t d=0) && (decide (f≤x) && (decide (x≤t) && decide ((d.tdiv (2 ^ wdF x)).tmod 2=1)))
structure Trp where
 typ:ByteArray
 sale:Int
 day:Int
 mnt:Int
 stops:Int
 trs:Int
 cars:List ByteArray
 nums:List Int
 vias:List ByteArray
def Trp.enc (t:Trp) (x y z:D):List D:=[.str t.typ,.int .i64 t.sale,.int .i64 t.day,.int .i64 t.mnt,.int .i64 t.stops,.int .i64 t.trs,x,y,z]
structure Trp.Ok (t:Trp) (x y z:D):Prop where
 hx:FLs 1 Cnd.encT x t.cars
 hy:FLs 1 encZ y t.nums
 hz:FLs 1 Cnd.encT z t.vias
 lx:t.cars.length≤1048576
 ly:t.nums.length≤1048576
 lz:t.vias.length≤1048576
theorem Trp.Ok.pure {t:Trp} {x y z:D} (h:t.Ok x y z):pureL (t.enc x y z)=true:=by
 simp only[Trp.enc,pureL_cons,pureL_nil,D.pure,fls_pure h.hx (Cnd.encT_pure _),fls_pure h.hy (encZs_pure' _),fls_pure h.hz (Cnd.encT_pure _),Bool.and_true]
mutual
def hol (t:Trp):Cnd→Bool
 | .mk k l _ a b pf pt pd c _=>
  if k=1 then true
  else if k=2 then decide ((cnt t l:Int)=l.length)
  else if k=3 then decide ((cnt t l:Int)>0)
  else if k=4 then decide ((cnt t l:Int)=0)
  else if k=5 then perF pf pt pd t.day
  else if k=6 then perF pf pt pd t.sale
  else if k=7 then decide (IntKind.i64.wrap (t.day-t.sale)≥a)
  else if k=8 then if a≤b then decide (t.mnt≥a) && decide (t.mnt≤b) else decide (t.mnt≥a) || decide (t.mnt≤b)
  else if k=9 then decide (t.stops≤a)
  else if k=10 then decide (t.trs≤a)
  else if k=11 then t.cars.all fun s=>c.any fun x=>decide (x=s)
  else if k=12 then t.nums.all fun x=> !(decide (x<a) || decide (x>b))
  else if k=13 then t.vias.all fun s=>c.any fun x=>decide (x=s)
  else c.any fun x=>decide (x=t.typ)
def cnt (t:Trp):List Cnd→Nat
 | []=>0
 |c::cs=>(if hol t c=true then 1 else 0)+cnt t cs
end
theorem cnt_add (t:Trp) (x:Cnd):∀l:List Cnd,cnt t (l++[x])=cnt t l+(if hol t x=true then 1 else 0)
 | []=>by simp[cnt]
 |c::cs=>by rw[List.cons_append,cnt,cnt,cnt_add t x cs,Nat.add_assoc]
theorem cnt_take {t:Trp} {l:List Cnd} {i:Nat} {x:Cnd} (h:l[i]? =some x):cnt t (l.take (i+1))=cnt t (l.take i)+(if hol t x=true then 1 else 0):=by
 rw[List.take_add_one,h];exact cnt_add t x _
theorem cnt_le (t:Trp):∀l:List Cnd,cnt t l≤l.length
 | []=>Nat.zero_le _
 |c::cs=>by
  have:=cnt_le t cs
  rw[cnt,List.length_cons]
  split <;> omega
section
variable {n : Nat}
theorem Weekday_x (hn:1≤n) (x:Int):∀st S,callD E (dcall E n) st S 237 [.int .i64 x]=some (.int .i64 (wdF x:Int),S):=by
 obtain⟨m,rfl⟩:∃m,n=m+1:=⟨n-1,by omega⟩
 obtain⟨h1,h2⟩:=tmod_pos (a:=x) (b:=7) (by omega)
 have hw:((x.tmod 7+12).tmod 7)=(wdF x:Int):=by
  have:=Int.tmod_nonneg (a:=x.tmod 7+12) 7 (by omega)
  unfold wdF
  omega
 obtain⟨w,hw'⟩:∃w,w=wdF x:=⟨_,rfl⟩
 rw[←hw']at hw ⊢
 obtain⟨y,hy⟩:∃y,y=x.tmod 7:=⟨_,rfl⟩
 rw[←hy]at h1 h2 hw
 have w1:IntKind.i64.wrap (y+12)=y+12:=wrap_ok (by omega) (by omega)
 have:WO (dcall E (m+1) 237 [.int .i64 x] []) fun r T=>r=.int .i64 w:=by
  refine wo_dcall Tryz.func237 rfl (by decide) rfl 7 rfl (fun a hal ha=>?_)
  have h0:a[0]? =some (.int .i64 x):=ha 0 (by simp)
  clear ha
  simp(maxSteps:=1000000)(disch:=omega)only[push_cast,decide_not,decide_eq_true_eq,decide_eq_false_iff_not,bne_eq_false_iff_eq,beq_eq_false_iff_ne,gt_iff_lt,ne_eq,not_true_eq_false,not_false_eq_true,hal,h0,←hy,w1,hw,Tryz.f237,↓WX,simprocAttr]
 obtain⟨_,T,ho,rfl⟩:=this
 exact fun st S=>callD_pure rfl rfl ho rfl
theorem bit04_x (hn:20≤n) (x:Int):∀st S,callD E (dcall E n) st S 221 [.int .i64 x]=some (.int .i64 (2 ^ wdF x),S):=by
 obtain⟨m,rfl⟩:∃m,n=m+1:=⟨n-1,by omega⟩
 have cw:=Weekday_x (n:=m) (by omega) x
 have hw:=wdF_le x
 generalize wdF x=w at*
 have:WO (dcall E (m+1) 221 [.int .i64 x] []) fun r T=>∃v:Int,r=.int .i64 v∧P2 w v:=by
  refine wo_dcall Tryz.func221 rfl (by decide) rfl 14 rfl (fun a hal ha=>?_)
  have h0:a[0]? =some (.int .i64 x):=ha 0 (by simp)
  clear ha
  simp(maxSteps:=1000000)(disch:=omega)only[push_cast,decide_not,decide_eq_true_eq,decide_eq_false_iff_not,bne_eq_false_iff_eq,beq_eq_false_iff_ne,gt_iff_lt,ne_eq,not_true_eq_false,not_false_eq_true,hal,h0,↓WX,simprocAttr]
  refine wl_loop (fun i a T=>(∃v:Int,a[3]? =some (.int .i64 v)∧P2 i v)∧a.length=14∧a[0]? =some (.int .i64 x)∧a[4]? =some (.int .i64 i)) w ?_ (by omega) ?_
  ·simp(maxSteps:=1000000)(disch:=omega)only[push_cast,decide_not,decide_eq_true_eq,decide_eq_false_iff_not,bne_eq_false_iff_eq,beq_eq_false_iff_ne,gt_iff_lt,ne_eq,not_true_eq_false,not_false_eq_true,hal,h0,Int.natCast_zero,↓WX,simprocAttr]
   exact⟨_,rfl,.inl ⟨rfl,rfl⟩⟩
  clear hal h0 a
  rintro i a T hi ⟨⟨v,h3,hv⟩,hal,h0,h4⟩
  rcases Nat.lt_or_eq_of_le hi with hlt |rfl
  case inr=>
   simp(maxSteps:=1000000)(disch:=omega)only[push_cast,decide_not,decide_eq_true_eq,decide_eq_false_iff_not,bne_eq_false_iff_eq,beq_eq_false_iff_ne,gt_iff_lt,ne_eq,not_true_eq_false,not_false_eq_true,hal,h0,h3,h4,cw,Int.lt_irrefl,Tryz.f221,↓WX,simprocAttr]
   exact⟨_,rfl,hv⟩
  have hltc:(i:Int)<w:=by omega
  have w1:IntKind.i64.wrap (2*v)=2*v:=by unfold P2 at hv;exact wrap_ok (by omega) (by omega)
  simp(maxSteps:=1000000)(disch:=omega)only[push_cast,decide_not,decide_eq_true_eq,decide_eq_false_iff_not,bne_eq_false_iff_eq,beq_eq_false_iff_ne,gt_iff_lt,ne_eq,not_true_eq_false,not_false_eq_true,hal,h0,h3,h4,cw,hltc,hlt,w1,wrap_ok,Int.natCast_add,Int.natCast_one,↓WX,simprocAttr]
  exact⟨_,rfl,by unfold P2 at hv ⊢;omega⟩
 obtain⟨_,T,ho,v,rfl,h1⟩:=this
 have:v=2 ^ w:=by
  unfold P2 at h1
  rcases h1 with ⟨rfl,rfl⟩ | ⟨rfl,rfl⟩ | ⟨rfl,rfl⟩ | ⟨rfl,rfl⟩ | ⟨rfl,rfl⟩ | ⟨rfl,rfl⟩ | ⟨rfl,rfl⟩ <;> rfl
 subst this
 exact fun st S=>callD_pure rfl rfl ho rfl
theorem r04Check_x (hn:1≤n) (f t d:Int):∀st S,callD E (dcall E n) st S 220 [.agg [.int .i64 f,.int .i64 t,.int .i64 d]]=some (.int .i64 (chkF f t d),S):=by
 obtain⟨m,rfl⟩:∃m,n=m+1:=⟨n-1,by omega⟩
 have:WO (dcall E (m+1) 220 [.agg [.int .i64 f,.int .i64 t,.int .i64 d]] []) fun r T=>r=.int .i64 (chkF f t d):=by
  obtain⟨q,hq⟩:∃q,q=chkF f t d:=⟨_,rfl⟩
  rw[←hq]
  unfold chkF at hq
  refine wo_dcall Tryz.func220 rfl (by decide) rfl 32 rfl (fun a hal ha=>?_)
  have h0:a[0]? =some (.agg [.int .i64 f,.int .i64 t,.int .i64 d]):=ha 0 (by simp)
  clear ha
  by_cases q1:f<0
  ·simp(maxSteps:=1000000)(disch:=omega)only[push_cast,decide_not,decide_eq_true_eq,decide_eq_false_iff_not,bne_eq_false_iff_eq,beq_eq_false_iff_ne,gt_iff_lt,ne_eq,not_true_eq_false,not_false_eq_true,hal,h0,q1,Tryz.f220,↓WX,simprocAttr]
   rw[hq,if_pos (by omega)]
  by_cases q2:t<f
  ·simp(maxSteps:=1000000)(disch:=omega)only[push_cast,decide_not,decide_eq_true_eq,decide_eq_false_iff_not,bne_eq_false_iff_eq,beq_eq_false_iff_ne,gt_iff_lt,ne_eq,not_true_eq_false,not_false_eq_true,hal,h0,q1,q2,Tryz.f220,↓WX,simprocAttr]
   rw[hq,if_pos (by omega)]
  by_cases q3:36525≤t
  ·simp(maxSteps:=1000000)(disch:=omega)only[push_cast,decide_not,decide_eq_true_eq,decide_eq_false_iff_not,bne_eq_false_iff_eq,beq_eq_false_iff_ne,gt_iff_lt,ne_eq,not_true_eq_false,not_false_eq_true,hal,h0,q1,q2,q3,ge_iff_le,Tryz.f220,↓WX,simprocAttr]
   rw[hq,if_pos (by omega)]
  rw[if_neg (by omega)]at hq
  by_cases q4:800≤t-f
  ·simp(maxSteps:=1000000)(disch:=omega)only[push_cast,decide_not,decide_eq_true_eq,decide_eq_false_iff_not,bne_eq_false_iff_eq,beq_eq_false_iff_ne,gt_iff_lt,ne_eq,not_true_eq_false,not_false_eq_true,hal,h0,q1,q2,q3,q4,ge_iff_le,wrap_ok,Tryz.f220,↓WX,simprocAttr]
   rw[hq,if_pos (by omega)]
  rw[if_neg (by omega)]at hq
  by_cases q5:d<1
  ·simp(maxSteps:=1000000)(disch:=omega)only[push_cast,decide_not,decide_eq_true_eq,decide_eq_false_iff_not,bne_eq_false_iff_eq,beq_eq_false_iff_ne,gt_iff_lt,ne_eq,not_true_eq_false,not_false_eq_true,hal,h0,q1,q2,q3,q4,q5,ge_iff_le,wrap_ok,Tryz.f220,↓WX,simprocAttr]
   rw[hq,if_pos (by omega)]
  by_cases q6:127<d
  ·simp(maxSteps:=1000000)(disch:=omega)only[push_cast,decide_not,decide_eq_true_eq,decide_eq_false_iff_not,bne_eq_false_iff_eq,beq_eq_false_iff_ne,gt_iff_lt,ne_eq,not_true_eq_false,not_false_eq_true,hal,h0,q1,q2,q3,q4,q5,q6,ge_iff_le,wrap_ok,Tryz.f220,↓WX,simprocAttr]
   rw[hq,if_pos (by omega)]
  ·simp(maxSteps:=1000000)(disch:=omega)only[push_cast,decide_not,decide_eq_true_eq,decide_eq_false_iff_not,bne_eq_false_iff_eq,beq_eq_false_iff_ne,gt_iff_lt,ne_eq,not_true_eq_false,not_false_eq_true,hal,h0,q1,q2,q3,q4,q5,q6,ge_iff_le,wrap_ok,Tryz.f220,↓WX,simprocAttr]
   rw[hq,if_neg (by omega)]
 obtain⟨_,T,ho,rfl⟩:=this
 exact fun st S=>callD_pure rfl rfl ho rfl
theorem p2_pos (w:Nat):¬((2:Int) ^ w=0):=by
 have:(0:Int)<2 ^ w:=Int.pow_pos (by omega)
 omega
theorem Has04_x (hn:30≤n) (f t d x:Int):∀st S,callD E (dcall E n) st S 187 [.agg [.int .i64 f,.int .i64 t,.int .i64 d],.int .i64 x]=some (.bool (perF f t d x),S):=by
 obtain⟨m,rfl⟩:∃m,n=m+1:=⟨n-1,by omega⟩
 have ce:=r04Check_x (n:=m) (by omega) f t d
 have cv:=bit04_x (n:=m) (by omega) x
 have hv0:=p2_pos (wdF x)
 unfold perF
 have hd:chkF f t d=0→1≤d∧d≤127:=fun h=>by
  unfold chkF at h
  repeat' split at h
  all_goals first |omega | (cases h)
 generalize chkF f t d=e at*
 have hv1:(1:Int)≤2 ^ wdF x:=by have:(0:Int)<2 ^ wdF x:=Int.pow_pos (by omega);omega
 generalize (2:Int) ^ wdF x=v at*
 have:WO (dcall E (m+1) 187 [.agg [.int .i64 f,.int .i64 t,.int .i64 d],.int .i64 x] []) fun r T=>r=.bool (decide (e=0) && (decide (f≤x) && (decide (x≤t) && decide ((d.tdiv v).tmod 2=1)))):=by
  refine wo_dcall Tryz.func187 rfl (by decide) rfl 29 rfl (fun a hal ha=>?_)
  have h0:a[0]? =some (.agg [.int .i64 f,.int .i64 t,.int .i64 d]):=ha 0 (by simp)
  have h1:a[1]? =some (.int .i64 x):=ha 1 (by simp)
  clear ha
  by_cases q1:e=0
  case neg=>
   simp(maxSteps:=1000000)(disch:=omega)only[push_cast,decide_not,decide_eq_true_eq,decide_eq_false_iff_not,bne_eq_false_iff_eq,beq_eq_false_iff_ne,gt_iff_lt,ne_eq,not_true_eq_false,not_false_eq_true,hal,h0,h1,ce,q1,decide_false,Bool.false_and,Tryz.f187,↓WX,simprocAttr]
  have hd':=hd q1
  subst q1
  by_cases q2:f≤x
  case neg=>
   simp(maxSteps:=1000000)(disch:=omega)only[push_cast,decide_not,decide_eq_true_eq,decide_eq_false_iff_not,bne_eq_false_iff_eq,beq_eq_false_iff_ne,gt_iff_lt,ne_eq,not_true_eq_false,not_false_eq_true,hal,h0,h1,ce,q2,decide_true,decide_false,ge_iff_le,Bool.false_and,Bool.true_and,Tryz.f187,↓WX,simprocAttr]
  by_cases q3:x≤t
  case neg=>
   simp(maxSteps:=1000000)(disch:=omega)only[push_cast,decide_not,decide_eq_true_eq,decide_eq_false_iff_not,bne_eq_false_iff_eq,beq_eq_false_iff_ne,gt_iff_lt,ne_eq,not_true_eq_false,not_false_eq_true,hal,h0,h1,ce,q2,q3,decide_true,decide_false,ge_iff_le,Bool.false_and,Bool.true_and,Tryz.f187,↓WX,simprocAttr]
  have hw:IntKind.i64.wrap (d.tdiv v)=d.tdiv v:=by
   have h1:=Int.tdiv_nonneg (a:=d) (b:=v) (by omega) (by omega)
   have h2:d.tdiv v≤d:=Int.tdiv_le_self _ (by omega)
   exact wrap_ok (by omega) (by omega)
  simp(maxSteps:=1000000)(disch:=omega)only[push_cast,decide_not,decide_eq_true_eq,decide_eq_false_iff_not,bne_eq_false_iff_eq,beq_eq_false_iff_ne,gt_iff_lt,ne_eq,not_true_eq_false,not_false_eq_true,hal,h0,h1,ce,cv,q2,q3,hv0,hw,decide_true,decide_false,ge_iff_le,Bool.true_and,Tryz.f187,↓WX,simprocAttr]
 obtain⟨_,T,ho,rfl⟩:=this
 exact fun st S=>callD_pure rfl rfl ho rfl
set_option maxHeartbeats 8000000 in
set_option maxRecDepth 100000 in
theorem count20_x {t:Trp} {x y z:D} (ht:t.Ok x y z) {l:List Cnd} {lx:Bool} (hl:l.length≤1048576) (hn:1048580≤n) (hf:∀c∈l,∀st S,callD E (dcall E n) st S 137 [.agg c.enc,.agg (t.enc x y z)]=some (.bool (hol t c),S)):∀st S,callD E (dcall E (n+1)) st S 186 [.sl 8 (Cnd.encs l) lx,.agg (t.enc x y z)]=some (.int .i64 (cnt t l),S):=by
 have hp:=ht.pure
 have o1:=fls_one ht.hx
 have o2:=fls_one ht.hy
 have o3:=fls_one ht.hz
 simp only[D.one]at o1 o2 o3
 simp only[Trp.enc]at hf hp ⊢
 have hel:=Cnd.encs_len l
 have:WO (dcall E (n+1) 186 [.sl 8 (Cnd.encs l) lx,.agg [.str t.typ,.int .i64 t.sale,.int .i64 t.day,.int .i64 t.mnt,.int .i64 t.stops,.int .i64 t.trs,x,y,z]] []) fun r T=>r=.int .i64 (cnt t l:Int):=by
  refine wo_dcall Tryz.func186 rfl (by decide) rfl 22 rfl (fun a hal ha=>?_)
  have h0:a[0]? =some (.sl 8 (Cnd.encs l) lx):=ha 0 (by simp)
  have h1:a[1]? =some (.agg [.str t.typ,.int .i64 t.sale,.int .i64 t.day,.int .i64 t.mnt,.int .i64 t.stops,.int .i64 t.trs,x,y,z]):=ha 1 (by simp)
  clear ha
  simp(maxSteps:=1000000)(disch:=omega)only[push_cast,decide_not,decide_eq_true_eq,decide_eq_false_iff_not,bne_eq_false_iff_eq,beq_eq_false_iff_ne,gt_iff_lt,ne_eq,not_true_eq_false,not_false_eq_true,hal,h0,h1,o1,o2,o3,↓WX,simprocAttr]
  refine wl_loop (fun i a T=>T=[Ob.row 9 [[.str t.typ,.int .i64 t.sale,.int .i64 t.day,.int .i64 t.mnt,.int .i64 t.stops,.int .i64 t.trs,x,y,z]]]∧a.length=22∧a[0]? =some (.sl 8 (Cnd.encs l) lx)∧a[3]? =some (.loc 0 0 0)∧a[5]? =some (.int .i64 (cnt t (l.take i)))∧a[6]? =some (.int .i64 i)) l.length ?_ (by omega) ?_
  ·simp(maxSteps:=1000000)(disch:=omega)only[push_cast,decide_not,decide_eq_true_eq,decide_eq_false_iff_not,bne_eq_false_iff_eq,beq_eq_false_iff_ne,gt_iff_lt,ne_eq,not_true_eq_false,not_false_eq_true,hal,h0,h1,Int.natCast_zero,List.take_zero,cnt,o1,o2,o3,↓WX,simprocAttr]
  clear hal h0 h1 a
  rintro i a T hi ⟨rfl,hal,h0,h3,h5,h6⟩
  rcases Nat.lt_or_eq_of_le hi with hlt |rfl
  case inr=>
   rw[List.take_length]at h5
   simp(maxSteps:=1000000)(disch:=omega)only[push_cast,decide_not,decide_eq_true_eq,decide_eq_false_iff_not,bne_eq_false_iff_eq,beq_eq_false_iff_ne,gt_iff_lt,ne_eq,not_true_eq_false,not_false_eq_true,hal,h0,h3,h5,h6,hel,Int.lt_irrefl,Tryz.f186,↓WX,simprocAttr]
  have hltc:(i:Int)<l.length:=by omega
  obtain⟨c,hc⟩:∃c,l[i]? =some c:=⟨l[i],by simp⟩
  have cc:=hf c (List.mem_of_getElem? hc)
  have hg:=Cnd.encs_get hc
  have hk:=cnt_take (t:=t) hc
  have hle:=cnt_le t (l.take i)
  rw[List.length_take]at hle
  generalize cnt t (l.take i)=k0 at*
  cases hb:hol t c
  ·rw[hb]at cc hk
   simp only[Bool.false_eq_true,if_false,Nat.add_zero]at hk
   cases c with |mk k' l' lx' u' v' pf' pt' pd' t' tx'=>?_
   simp only[Cnd.enc]at cc hg
   simp(maxSteps:=1000000)(disch:=omega)only[push_cast,decide_not,decide_eq_true_eq,decide_eq_false_iff_not,bne_eq_false_iff_eq,beq_eq_false_iff_ne,gt_iff_lt,ne_eq,not_true_eq_false,not_false_eq_true,hal,h0,h3,h5,h6,hel,hltc,hlt,hg,cc,hk,o1,o2,o3,wrap_ok,Int.natCast_add,Int.natCast_one,↓WX,simprocAttr]
  ·rw[hb]at cc hk
   simp only[if_true]at hk
   cases c with |mk k' l' lx' u' v' pf' pt' pd' t' tx'=>?_
   simp only[Cnd.enc]at cc hg
   simp(maxSteps:=1000000)(disch:=omega)only[push_cast,decide_not,decide_eq_true_eq,decide_eq_false_iff_not,bne_eq_false_iff_eq,beq_eq_false_iff_ne,gt_iff_lt,ne_eq,not_true_eq_false,not_false_eq_true,hal,h0,h3,h5,h6,hel,hltc,hlt,hg,cc,hk,o1,o2,o3,wrap_ok,Int.natCast_add,Int.natCast_one,↓WX,simprocAttr]
 obtain⟨_,T,hr,rfl⟩:=this
 exact fun st S=>callD_pure rfl (by simp only[pureL_cons,pureL_nil,D.pure,Cnd.pures,hp,Bool.and_true]) hr rfl
end
end Go.Proofs.YtaklebjoenophaaGreat.Dm
