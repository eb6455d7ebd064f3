/-
  Surcharges, what passengers pay, and whether a routing allows a way: the program, exactly.
  The miles of a way, the way of a fare: the program, exactly.
-/
import Derived.Test.YtaklebjoenophaaGreatPrR
set_option maxHeartbeats 64000000
set_option maxRecDepth 100000
set_option linter.unusedSimpArgs false
set_option linter.unusedVariables false
namespace Go.Proofs.YtaklebjoenophaaGreat.Dm
open Go Gw
def stpAll (ls:List (ByteArray×ByteArray)):List ByteArray->Bool
 |x::y::r=>(ls.any λl=>decide (l.1=x) && decide (l.2=y)) && stpAll ls (y::r)
 |_=>true
def lksF (o:Option Rou):List (ByteArray×ByteArray):=match o with |none=>[] |some r=>r.links
def milF (o:Option Rou):Int:=match o with |none=>0 |some r=>r.miles
def ralF (o:Option Rou) (cs:List ByteArray):Bool:=decide (((lksF o).length:Int)=0) || stpAll (lksF o) cs
theorem stpAll_drop {ls:List (ByteArray×ByteArray)} {cs:List ByteArray} {i:Nat} {x y:ByteArray} (hx:cs[i]?=some x) (hy:cs[i+1]?=some y):stpAll ls (cs.drop i)=((ls.any λl=>decide (l.1=x) && decide (l.2=y)) && stpAll ls (cs.drop (i+1))):=by
 rw[Yu hx,Yu hy,stpAll]
theorem stpAll_end {ls:List (ByteArray×ByteArray)} {cs:List ByteArray} {i:Nat} (h:cs.length<=i+1):stpAll ls (cs.drop i)=true:=by
 have:(cs.drop i).length<=1:=by rw[Vf];omega
 generalize cs.drop i=l at*
 match l,this with
 | [],_=>rfl
 | [x],_=>rfl
section
variable {n : Nat}
theorem PLevel_x (u k:Int) (hn:10<=n):∀st S,Yi E (Yb E n) st S 126 [.int .i64 u,.int .i64 k]=some (.tup [.int .i64 (lvlF u k).1,.int .i64 (lvlF u k).2],S):=by
 obtain⟨m,rfl⟩:∃m,n=m+1:=⟨n-1,by omega⟩
 obtain⟨z,hz⟩:∃z,z=lvlF u k:=⟨_,rfl⟩
 rw[<-hz]
 unfold lvlF at hz
 have:WO (Yb E (m+1) 126 [.int .i64 u,.int .i64 k] []) λv T=>v=.tup [.int .i64 z.1,.int .i64 z.2]:=by
  refine Ye Tryz.func126 rfl (by decide) rfl 33 rfl (λa hal ha=>?_)
  obtain⟨h0,h1⟩:=aQ2 ha
  clear ha
  by_cases c1:u<0
  ·rw[if_pos (by omega)]at hz
   subst hz
   simp only[push_cast,hal,h0,c1,Tryz.f126,↓WX,simprocAttr]
  by_cases c2:1099511627776<u
  ·rw[if_pos (by omega)]at hz
   subst hz
   simp only[push_cast,Vn,hal,h0,c1,c2,Tryz.f126,↓WX,simprocAttr]
  by_cases c3:k<1
  ·rw[if_pos (by omega)]at hz
   subst hz
   simp only[push_cast,Vn,hal,h0,h1,c1,c2,c3,Tryz.f126,↓WX,simprocAttr]
  by_cases c4:1099511627776<k
  ·rw[if_pos (by omega)]at hz
   subst hz
   simp only[push_cast,Vn,hal,h0,h1,c1,c2,c3,c4,Tryz.f126,↓WX,simprocAttr]
  rw[if_neg (by omega)]at hz
  refine Ya (λa V=>V=[]/\gQ a 33 (a[1]?=some (.int .i64 k)) [(0,.int .i64 u)]) ?_ ?_
  ·simp only[push_cast,hal,h0,h1,↓WX,simprocAttr]
  rintro a V ⟨rfl,hal,h0,h1⟩
  refine Ya (λa V=>V=[]/\gQ a 33 (a[1]?=some (.int .i64 k)) [(0,.int .i64 u)]) ?_ ?_
  ·simp only[push_cast,Vn,hal,h0,h1,c1,c2,c3,c4,↓WX,simprocAttr]
  rintro a V ⟨rfl,hal,h0,h1⟩
  refine Za (λa T=>z=(0,22)/\a.length=33) ?_ ?_
  ·simp only[push_cast,↓WX,simprocAttr]
   refine Yk (λi a T=>(T=[]/\∃v:Int,v=5*i/\a[6]?=some (.int .i64 v)/\z=(if v<=0/\u*100<=k*100 then (0,0) else if v<=5/\u*100<=k*105 then (5,0) else if v<=10/\u*100<=k*110 then (10,0) else if v<=15/\u*100<=k*115 then (15,0) else if v<=20/\u*100<=k*120 then (20,0) else if v<=25/\u*100<=k*125 then (25,0) else (0,22)))/\a.length=33/\a[0]?=some (.int .i64 u)/\a[1]?=some (.int .i64 k)) 6 ?_ (by omega) ?_
   ·simp only[push_cast,hal,h0,h1,simprocAttr]
    refine⟨0,rfl,rfl,?_⟩
    rw[hz]
    simp only[Int.reduceLE,WY]
   clear hz
   rintro i a T hi ⟨⟨rfl,v,hv,h6,e⟩,hal,h0,h1⟩
   by_cases c5:v<=25
   case neg=>
    have e:z=(0,22):=by rw[e,if_neg (by omega),if_neg (by omega),if_neg (by omega),if_neg (by omega),if_neg (by omega),if_neg (by omega)]
    subst e
    simp only[push_cast,hal,h6,c5,↓WX,simprocAttr,WY]
   have hi5:i<6:=by omega
   have w1:IntKind.i64.wrap (u*100)=u*100:=Yf (by omega) (by omega)
   have w2:IntKind.i64.wrap (100+v)=100+v:=Yf (by omega) (by omega)
   have w3:IntKind.i64.wrap (v+5)=v+5:=Yf (by omega) (by omega)
   obtain⟨q,hq⟩:∃q,q=k*(100+v):=⟨_,rfl⟩
   have w4:IntKind.i64.wrap (k*(100+v))=q:=by
    have h1:k*(100+v)<=1099511627776*125:=Int.mul_le_mul (by omega) (by omega) (by omega) (by omega)
    have h2:0<=k*(100+v):=Int.mul_nonneg (by omega) (by omega)
    rw[hq]
    exact Yf (by omega) (by omega)
   have hkey:(u*100<=q->z=(v,0))/\(¬u*100<=q->z=(if v+5<=0/\u*100<=k*100 then (0,0) else if v+5<=5/\u*100<=k*105 then (5,0) else if v+5<=10/\u*100<=k*110 then (10,0) else if v+5<=15/\u*100<=k*115 then (15,0) else if v+5<=20/\u*100<=k*120 then (20,0) else if v+5<=25/\u*100<=k*125 then (25,0) else (0,22))):=by
    have hvs:v=0∨v=5∨v=10∨v=15∨v=20∨v=25:=by omega
    rcases hvs with rfl |rfl |rfl |rfl |rfl |rfl <;> simp only[Int.reduceAdd]at hq <;> subst hq <;> rw[e] <;> refine⟨λh=>?_,λh=>?_⟩ <;> simp[h] <;> omega
   by_cases c6:u*100<=q
   ·have e:=hkey.1 c6
    subst e
    simp only[push_cast,hal,h0,h1,h6,c5,w1,w2,w4,c6,Tryz.f126,↓WX,simprocAttr,WY]
   ·have e:=hkey.2 c6
    simp only[push_cast,hal,h0,h1,h6,c5,w1,w2,w3,w4,c6,hi5,↓WX,simprocAttr,WY]
    exact⟨v+5,by omega,rfl,e⟩
  rintro a T ⟨rfl,hal⟩
  simp only[push_cast,hal,Tryz.f126,↓WX,simprocAttr]
 obtain⟨_,T,ho,rfl⟩:=this
 exact λst S=>Yd rfl rfl ho rfl
theorem PApply_x (x k:Int) (hx:0<=x) (hn:4<=n):∀st S,Yi E (Yb E n) st S 68 [.int .i64 x,.int .i64 k]=some (.tup [.int .i64 (aplF x k).1,.int .i64 (aplF x k).2],S):=by
 obtain⟨m,rfl⟩:∃m,n=m+1:=⟨n-1,by omega⟩
 obtain⟨z,hz⟩:∃z,z=aplF x k:=⟨_,rfl⟩
 rw[<-hz]
 unfold aplF at hz
 have:WO (Yb E (m+1) 68 [.int .i64 x,.int .i64 k] []) λv T=>v=.tup [.int .i64 z.1,.int .i64 z.2]:=by
  refine Ye Tryz.func68 rfl (by decide) rfl 24 rfl (λa hal ha=>?_)
  obtain⟨h0,h1⟩:=aQ2 ha
  clear ha
  by_cases c1:k<0
  ·rw[if_pos (by omega)]at hz
   subst hz
   simp only[push_cast,hal,h1,c1,Tryz.f68,↓WX,simprocAttr]
  by_cases c2:25<k
  ·rw[if_pos (by omega)]at hz
   subst hz
   simp only[push_cast,Vn,hal,h1,c1,c2,Tryz.f68,↓WX,simprocAttr]
  by_cases c3:k.tmod 5=0
  case neg=>
   rw[if_pos (.inr (.inr c3))]at hz
   subst hz
   simp only[push_cast,Vn,Vo,hal,h1,c1,c2,c3,Tryz.f68,↓WX,simprocAttr,WY]
  rw[if_neg (λh=>h.elim c1 (λh=>h.elim c2 (λh=>h c3)))]at hz
  have cp:=PPercent_x (n:=m) x ((100+k)*100) hx (by omega) (by omega)
  rw[<-hz]at cp
  have w1:IntKind.i64.wrap (100+k)=100+k:=Yf (by omega) (by omega)
  obtain⟨kk,hkk⟩:∃kk,kk=(100+k)*100:=⟨_,rfl⟩
  have w2:IntKind.i64.wrap ((100+k)*100)=kk:=by rw[hkk];exact Yf (by omega) (by omega)
  rw[<-hkk]at cp
  clear hz hkk
  simp only[push_cast,Vn,Vp,hal,h0,h1,c1,c2,c3,w1,w2,cp,Tryz.f68,↓WX,simprocAttr]
 obtain⟨_,T,ho,rfl⟩:=this
 exact λst S=>Yd rfl rfl ho rfl
theorem eq_lk (a b c d:ByteArray):dEq Tryz.prog 10000 175 (.agg [.str a,.str b]) (.agg [.str c,.str d])=some (decide (a=c) && decide (b=d)):=by
 rw[show (10000:Nat)=9998+1+1 from rfl]
 have hs:Tryz.prog.stoodInHeld 175=false:=by kernel_rfl
 by_cases e1:a=c <;> by_cases e2:b=d <;> simp(decide:=true)only[push_cast,dEq,dEqs,str_eq',hs,e1,e2,decide_false,decide_true,Bool.true_and,Bool.false_and]
theorem plain_lk:plainEqT Tryz.prog 175=true:=by kernel_rfl
theorem PIndexL_x (l:List (ByteArray×ByteArray)) (lx:Bool) (hl:l.length<=1048576) (u v:ByteArray) (hn:1048590<=n):∃k:Int,decide (0<=k)=(l.any λx=>decide (x.1=u) && decide (x.2=v))/\∀st S,Yi E (Yb E n) st S 214 [.sl 2 (l.map encLk) lx,.agg [.str u,.str v]]=some (.int .i64 k,S):=by
 obtain⟨m,rfl⟩:∃m,n=m+1:=⟨n-1,by omega⟩
 have hel:=λx:ByteArray×ByteArray=>eq_lk u v x.1 x.2
 have hpl:=plain_lk
 have:WO (Yb E (m+1) 214 [.sl 2 (l.map encLk) lx,.agg [.str u,.str v]] []) λr T=>∃k:Int,r=.int .i64 k/\decide (0<=k)=l.any λx=>decide (x.1=u) && decide (x.2=v):=by
  obtain⟨q,hq⟩:∃q,q=l.any λx=>decide (x.1=u) && decide (x.2=v):=⟨_,rfl⟩
  rw[<-hq]
  refine Ye Tryz.func214 rfl (by decide) rfl 19 rfl (λa hal ha=>?_)
  obtain⟨h0,h1⟩:=aQ2 ha
  clear ha
  obtain⟨V0,hV0⟩:∃V0:List Ob,V0=[Ob.row 2 [[.str u,.str v]]]:=⟨_,rfl⟩
  have g0:V0[0]?=some (Ob.row 2 [[.str u,.str v]]):=by rw[hV0];rfl
  refine Ya (λa V=>V=V0/\gQ a 19 (a[3]?=some (.loc 0 0 0)) [(0,.sl 2 (l.map encLk) lx)]) ?_ ?_
  ·simp only[push_cast,hal,h0,h1,↓WX,simprocAttr]
   exact hV0.symm
  clear hV0
  rintro a V ⟨rfl,hal,h0,h3⟩
  simp only[push_cast,hal,h0,↓WX,simprocAttr]
  refine Yk (λi a T=>(T=V/\q=(l.drop i).any λx=>decide (x.1=u) && decide (x.2=v))/\a.length=19/\a[0]?=some (.sl 2 (l.map encLk) lx)/\a[3]?=some (.loc 0 0 0)/\a[7]?=some (.int .i64 l.length)/\a[8]?=some (.int .i64 i)) l.length ?_ (by omega) ?_
  ·simp only[push_cast,hal,h0,h3,simprocAttr,WY]
   exact hq
  rintro i a T hi ⟨⟨rfl,e⟩,hal,h0,h3,h7,h8⟩
  rcases Kw hi with hlt |rfl
  case inr=>
   rw[Vj,List.any_nil]at e
   subst e
   simp only[push_cast,decide_eq_false_iff_not,hal,h7,h8,Tryz.f214,↓WX,simprocAttr,WY]
   exact⟨_,rfl,by simp⟩
  have hltc:(i:Int)<l.length:=by omega
  obtain⟨x,hx⟩:∃x,l[i]?=some x:=⟨l[i],by simp⟩
  rw[Yu hx,List.any_cons]at e
  have hel:=hel x
  have hb:(decide (x.1=u) && decide (x.2=v))=(decide (u=x.1) && decide (v=x.2)):=by
   by_cases a1:u=x.1 <;> by_cases a2:v=x.2 <;> simp[a1,a2,eq_comm]
   all_goals first |exact λh=>a1 h |exact λ_ h=>a2 h |skip
  rw[hb]at e
  cases c:(decide (u=x.1) && decide (v=x.2))
  ·rw[c,Bool.false_or]at e
   rw[c]at hel
   simp(disch:=omega)only[push_cast,hal,h0,h3,h7,h8,g0,hltc,hlt,hx,hel,hpl,encLk,Yf,↓WX,simprocAttr,WY]
   exact e
  ·rw[c,Bool.true_or]at e
   rw[c]at hel
   subst e
   simp only[push_cast,Up,hal,h0,h3,h7,h8,g0,hltc,hx,hel,hpl,encLk,Tryz.f214,↓WX,simprocAttr]
   exact⟨_,rfl,by simp⟩
 obtain⟨_,T,ho,k,rfl,hk⟩:=this
 exact⟨k,hk,λst S=>Yd rfl (by simp only[Yc,Yg,D.pure,encLk_pure,Ua]) ho rfl⟩
theorem PContL_x (l:List (ByteArray×ByteArray)) (lx:Bool) (hl:l.length<=1048576) (u v:ByteArray) (hn:1048600<=n):∀st S,Yi E (Yb E n) st S 178 [.sl 2 (l.map encLk) lx,.agg [.str u,.str v]]=some (.bool (l.any λx=>decide (x.1=u) && decide (x.2=v)),S):=by
 obtain⟨m,rfl⟩:∃m,n=m+1:=⟨n-1,by omega⟩
 obtain⟨r,hr,cr⟩:=PIndexL_x (n:=m) l lx hl u v (by omega)
 rw[<-hr]
 have:WO (Yb E (m+1) 178 [.sl 2 (l.map encLk) lx,.agg [.str u,.str v]] []) λq T=>q=.bool (decide (0<=r)):=by
  refine Ye Tryz.func178 rfl (by decide) rfl 9 rfl (λa hal ha=>?_)
  obtain⟨h0,h1⟩:=aQ2 ha
  clear ha
  simp only[push_cast,hal,h0,h1,cr,Vx,Tryz.f178,↓WX,simprocAttr]
 obtain⟨_,T,ho,rfl⟩:=this
 exact λst S=>Yd rfl (by simp only[Yc,Yg,D.pure,encLk_pure,Ua]) ho rfl
theorem PRAllows_x (o:Option Rou) (ho:∀r,o=some r->r.links.length<=1048576) (c:List ByteArray) (cx:Bool) (hc:c.length<=1048577) (hn:1048700<=n):∀st S,Yi E (Yb E n) st S 124 [rouD o,.sl 1 (c.map Cnd.encT) cx]=some (.bool (ralF o c),S):=by
 obtain⟨m,rfl⟩:∃m,n=m+1:=⟨n-1,by omega⟩
 have:WO (Yb E (m+1) 124 [rouD o,.sl 1 (c.map Cnd.encT) cx] []) λr T=>r=.bool (ralF o c):=by
  obtain⟨q,hq⟩:∃q,q=ralF o c:=⟨_,rfl⟩
  rw[<-hq]
  cases o with
  |none=>
   have hq:q=true:=hq
   subst hq
   simp only[rouD]
   refine Ye Tryz.func124 rfl (by decide) rfl 30 rfl (λa hal ha=>?_)
   obtain⟨h0,h1⟩:=aQ2 ha
   clear ha
   simp only[push_cast,hal,h0,Tryz.f124,↓WX,simprocAttr,WY]
  |some r=>
   have hrl:=ho r rfl
   have hq:q=(decide ((r.links.length:Int)=0) || stpAll r.links c):=hq
   have cl:=λx y=>PContL_x (n:=m) r.links r.linksx hrl x y (by omega)
   simp only[rouD,Rou.enc]
   refine Ye Tryz.func124 rfl (by decide) rfl 30 rfl (λa hal ha=>?_)
   obtain⟨h0,h1⟩:=aQ2 ha
   clear ha
   obtain⟨V0,hV0⟩:∃V0:List Ob,V0=[Ob.row 3 [[.int .i64 r.num,.sl 2 (r.links.map encLk) r.linksx,.int .i64 r.miles]]]:=⟨_,rfl⟩
   have g0:V0[0]?=some (Ob.row 3 [[.int .i64 r.num,.sl 2 (r.links.map encLk) r.linksx,.int .i64 r.miles]]):=by rw[hV0];rfl
   refine Ya (λa V=>V=V0/\gQ a 30 (a[2]?=some (.loc 0 0 0)) [(1,.sl 1 (c.map Cnd.encT) cx)]) ?_ ?_
   ·simp only[push_cast,hal,h0,h1,↓WX,simprocAttr]
    exact hV0.symm
   clear hV0
   rintro a V ⟨rfl,hal,h1,h2⟩
   cases e0:decide ((r.links.length:Int)=0)
   case true=>
    rw[e0,Bool.true_or]at hq
    subst hq
    simp only[push_cast,hal,h2,g0,e0,Tryz.f124,↓WX,simprocAttr]
   rw[e0,Bool.false_or]at hq
   refine Ya (λa W=>W=V/\gQ a 30 (a[2]?=some (.loc 0 0 0)) [(1,.sl 1 (c.map Cnd.encT) cx)]) ?_ ?_
   ·simp only[push_cast,hal,h1,h2,g0,e0,↓WX,simprocAttr]
   rintro a W ⟨rfl,hal,h1,h2⟩
   refine Za (λa T=>q=true/\a.length=30) ?_ ?_
   ·simp only[push_cast,↓WX,simprocAttr]
    refine Yk (λi a T=>(T=W/\(∃j:Int,a[5]?=some (.int .i64 j)/\j=(i:Int)+1)/\q=stpAll r.links (c.drop i))/\a.length=30/\a[1]?=some (.sl 1 (c.map Cnd.encT) cx)/\a[2]?=some (.loc 0 0 0)) c.length ?_ (by omega) ?_
    ·simp only[push_cast,hal,h1,h2,simprocAttr,WY]
     exact⟨⟨1,rfl,rfl⟩,hq⟩
    clear hq
    rintro i a T hi ⟨⟨rfl,⟨j,h5,hj⟩,e⟩,hal,h1,h2⟩
    by_cases hjl:j<c.length
    case neg=>
     rw[stpAll_end (by omega)]at e
     simp only[push_cast,hal,h1,h5,hjl,↓WX,simprocAttr,WY]
     exact e
    have hlt:i<c.length:=by omega
    have hlt1:i+1<c.length:=by omega
    obtain⟨x,hx⟩:∃x,c[i]?=some x:=⟨c[i],by simp⟩
    obtain⟨y,hy⟩:∃y,c[i+1]?=some y:=⟨c[i+1],by simp⟩
    have hj0:j-1=(i:Int):=by omega
    have hjn:j.toNat=i+1:=by omega
    have hge:(0<=j)=True:=eq_true (by omega)
    have hwj:IntKind.i64.wrap (j-1)=(i:Int):=by rw[hj0];exact Yf (by omega) (by omega)
    have cl:=cl x y
    rw[stpAll_drop hx hy]at e
    cases e1:(r.links.any λl=>decide (l.1=x) && decide (l.2=y))
    ·rw[e1,Bool.false_and]at e
     rw[e1]at cl
     subst e
     simp only[push_cast,hal,h1,h2,h5,g0,hjl,hx,hy,hwj,hjn,hge,cl,Cnd.encT,Tryz.f124,↓WX,simprocAttr,WY]
    ·rw[e1,Bool.true_and]at e
     rw[e1]at cl
     simp(maxSteps:=1000000)(disch:=omega)only[push_cast,hal,h1,h2,h5,g0,hjl,hlt,hx,hy,hwj,hjn,hge,cl,Bool.not_true,Cnd.encT,Yf,true_and,↓WX,simprocAttr]
     exact⟨⟨_,rfl,by push_cast<;>omega⟩,e⟩
   rintro a T ⟨rfl,hal⟩
   simp only[push_cast,hal,Tryz.f124,↓WX,simprocAttr]
 obtain⟨_,T,hr,rfl⟩:=this
 exact λst S=>Yd rfl (by simp only[Yc,Yg,rouD_pure,D.pure,Cnd.encT_pure,Ua]) hr rfl
theorem rul_litP (o:Option Rul):∃c0 c1 c2 c3 c4 c5 c6 c7 c8 c9 c10 c11 c12 c13 d:D,rulD o=.agg [c0,c1,c2,c3,c4,c5,c6,c7,c8,c9,c10,c11,c12,c13,d]/\FLs 2 encPc d (pcsL o)/\[c0,c1,c2,c3,c4,c5,c6,c7,c8,c9,c10,c11,c12,c13].all D.one=true:=by
 cases o with
 |none=>exact⟨_,_,_,_,_,_,_,_,_,_,_,_,_,_,_,rfl,.inl ⟨rfl,rfl⟩,rfl⟩
 |some r=>
  obtain⟨w,hw⟩:∃w,r.when=w:=⟨_,rfl⟩
  have hxe:Rul.enc r=.int .i64 r.num::(w.enc++[.sl 1 (r.comb.map encZ) r.combx,.int .i64 r.mins,.int .i64 r.maxs,.int .i64 r.chg,.int .i64 r.ref,.sl 2 (r.pcs.map encPc) r.pcx]):=by rw[<-hw];rfl
  cases w with |mk k' l' lx' u' v' pf' pt' pd' t' tx'=>?_
  simp only[Cnd.enc,Uv,Vr]at hxe
  simp only[rulD,hxe,pcsL]
  exact⟨_,_,_,_,_,_,_,_,_,_,_,_,_,_,_,rfl,.inr ⟨_,rfl⟩,rfl⟩
theorem PPay_x (o:Option Rul) (hpl:(pcsL o).length<=1048576) (hpc:∀p∈pcsL o,0<=p.2/\p.2<=1000) (s:ByteArray) (x:Int) (hx:0<=x) (hn:1048600<=n):∀st S,Yi E (Yb E n) st S 69 [rulD o,.str s,.int .i64 x]=some (.tup [.int .i64 (payF o s x).1,.int .i64 (payF o s x).2],S):=by
 obtain⟨m,rfl⟩:∃m,n=m+1:=⟨n-1,by omega⟩
 have hpo:=Jl o
 obtain⟨z,hz⟩:∃z,z=payF o s x:=⟨_,rfl⟩
 rw[<-hz]
 unfold payF at hz
 obtain⟨c0,c1,c2,c3,c4,c5,c6,c7,c8,c9,c10,c11,c12,c13,d,hd,hf,hone⟩:=rul_litP o
 rw[hd]at hpo ⊢
 generalize pcsL o=l at*
 simp only[List.all_cons,List.all_nil,Ua,Kv,D.one]at hone
 obtain⟨n0,n1,n2,n3,n4,n5,n6,n7,n8,n9,n10,n11,n12,n13⟩:=hone
 have od:=Yv hf
 simp only[D.one]at od
 have hyl:=λS=>Jv (S:=S) Tryz.underlying71 hf
 simp only[push_cast]at hyl
 have cp0:=PPercent_x (n:=m) x 10000 hx (by omega) (by omega)
 have:WO (Yb E (m+1) 69 [.agg [c0,c1,c2,c3,c4,c5,c6,c7,c8,c9,c10,c11,c12,c13,d],.str s,.int .i64 x] []) λv T=>v=.tup [.int .i64 z.1,.int .i64 z.2]:=by
  clear hpo hd
  refine Ye Tryz.func69 rfl (by decide) rfl 33 rfl (λa hal ha=>?_)
  obtain⟨h0,h1,h2⟩:=aQ3 ha
  clear ha
  obtain⟨V0,hV0⟩:∃V0:List Ob,V0=[Ob.row 15 [[c0,c1,c2,c3,c4,c5,c6,c7,c8,c9,c10,c11,c12,c13,d]]]:=⟨_,rfl⟩
  have g0:V0[0]?=some (Ob.row 15 [[c0,c1,c2,c3,c4,c5,c6,c7,c8,c9,c10,c11,c12,c13,d]]):=by rw[hV0];rfl
  refine Ya (λa V=>V=V0/\gQ a 33 (a[3]?=some (.loc 0 0 0)) [(1,.str s),(2,.int .i64 x)]) ?_ ?_
  ·simp only[push_cast,hal,h0,h1,h2,n0,n1,n2,n3,n4,n5,n6,n7,n8,n9,n10,n11,n12,n13,od,↓WX,simprocAttr]
   exact hV0.symm
  clear hV0 n0 n1 n2 n3 n4 n5 n6 n7 n8 n9 n10 n11 n12 n13
  rintro a V ⟨rfl,hal,h1,h2,h3⟩
  refine Za (λa T=>z=pctF x 10000/\a.length=33/\a[2]?=some (.int .i64 x)) ?_ ?_
  ·simp only[push_cast,hal,h3,g0,hyl,↓WX,simprocAttr]
   refine Yk (λi a T=>((∃J,T=V++J)/\z=(match (l.drop i).find? λp=>decide (p.1=s) with |none=>pctF x 10000 |some p=>pctF x (100*p.2)))/\a.length=33/\a[1]?=some (.str s)/\a[2]?=some (.int .i64 x)/\a[11]?=some (d)/\a[12]?=some (.int .i64 l.length)/\a[13]?=some (.int .i64 i)) l.length ?_ (by omega) ?_
   ·simp only[push_cast,hal,h1,h2,simprocAttr,WY]
    exact⟨⟨[],(Ur _).symm⟩,hz⟩
   clear hz
   rintro i a T hi ⟨⟨⟨J,rfl⟩,e⟩,hal,h1,h2,h11,h12,h13⟩
   rcases Kw hi with hlt |rfl
   case inr=>
    rw[Vj,List.find?_nil]at e
    simp only[push_cast,hal,h2,h12,h13,↓WX,simprocAttr,WY]
    exact e
   have hltc:(i:Int)<l.length:=by omega
   obtain⟨y,hy⟩:∃y,l[i]?=some y:=⟨l[i],by simp⟩
   obtain⟨y1,y2⟩:=hpc y (Kx hy)
   rw[Yu hy,List.find?_cons]at e
   rcases hf with ⟨-,rfl⟩ | ⟨lx,rfl⟩
   ·cases hy
   have hw:IntKind.i64.wrap (100*y.2)=100*y.2:=Yf (by omega) (by omega)
   have cp:=PPercent_x (n:=m) x (100*y.2) hx (by omega) (by omega)
   cases c:decide (y.1=s)
   ·rw[c]at e
    simp(disch:=omega)only[push_cast,hal,h1,h2,h11,h12,h13,hltc,hlt,hy,c,Yo,Yq,Yl,encPc,Yf,↓WX,simprocAttr,WY]
    exact⟨⟨_,Vg ..⟩,e⟩
   ·rw[c]at e
    dsimp only at e
    rw[<-e]at cp
    simp only[push_cast,hal,h1,h2,h11,h12,h13,hltc,hy,c,hw,cp,Yo,Yq,Yl,encPc,Tryz.f69,↓WX,simprocAttr,WY]
  rintro a T ⟨rfl,hal,h2⟩
  simp only[push_cast,hal,h2,cp0,Tryz.f69,↓WX,simprocAttr]
 obtain⟨_,T,ho,rfl⟩:=this
 exact λst S=>Yd rfl (by simp only[Yc,Yg,D.pure,Ua]at hpo ⊢;exact hpo) ho rfl
end
structure PlG (p:Plc):Prop where
 apl:p.aps.length<=1048576
 sh:∀a∈p.aps,a.sh.length<=1048576
 so:∀a∈p.aps,ShOk a.sh
 dl:p.dts.length<=20
 cz:∀a∈p.aps,a.city.size<=1048576
 dz:∀x∈p.dts,x.fr.size<=1048576/\x.to.size<=1048576
structure TrG (t:Trf):Prop where
 fl:t.fares.length<=1000
 am:∀f∈t.fares,0<=f.amt/\f.amt<=1099511627776
 rl:t.rules.length<=1048576
 cb:∀r∈t.rules,r.comb.length<=1048576
 cn:∀r∈t.rules,Yn r.when.enc<=1048576
 pl:∀r∈t.rules,r.pcs.length<=1048576
 pc:∀r∈t.rules,∀p∈r.pcs,0<=p.2/\p.2<=1000
 ol:t.rous.length<=1048576
 lk:∀r∈t.rous,r.links.length<=1048576
 tl:t.taxes.length<=90000
 tg:∀x∈t.taxes,TxG x
 tf:∀x∈t.taxes,x.free.length<=1048576
open Classical in
noncomputable def milN (p:Plc) (s t:ByteArray):Int×Int:=if h:∃z:Int×Int,MilS p s t z.1 z.2 then h.choose else (0,0)
def wayF (mi:ByteArray->ByteArray->Int×Int):List ByteArray->Int->Int×Int
 |x::y::r,s=>if (mi x y).2=0 then wayF mi (y::r) (IntKind.i64.wrap (s+(mi x y).1)) else (0,(mi x y).2)
 |_,s=>(s,0)
theorem wayF_drop {mi:ByteArray->ByteArray->Int×Int} {cs:List ByteArray} {i:Nat} {x y:ByteArray} (hx:cs[i]?=some x) (hy:cs[i+1]?=some y) (s:Int):wayF mi (cs.drop i) s=if (mi x y).2=0 then wayF mi (cs.drop (i+1)) (IntKind.i64.wrap (s+(mi x y).1)) else (0,(mi x y).2):=by
 rw[Yu hx,Yu hy,wayF]
theorem wayF_end {mi:ByteArray->ByteArray->Int×Int} {cs:List ByteArray} {i:Nat} (h:cs.length<=i+1) (s:Int):wayF mi (cs.drop i) s=(s,0):=by
 have:(cs.drop i).length<=1:=by rw[Vf];omega
 generalize cs.drop i=l at*
 match l,this with
 | [],_=>rfl
 | [x],_=>rfl
noncomputable def ofN (p:Plc) (cs:List ByteArray) (k:Int):Int×Int:=if (wayF (milN p) cs 0).2=0 then lvlF (wayF (milN p) cs 0).1 k else (0,(wayF (milN p) cs 0).2)
def rouT (t:Trf) (k:Int):Option Rou:=t.rous.find? λr=>decide (r.num=k)
def rulT (t:Trf) (k:Int):Option Rul:=t.rules.find? λr=>decide (r.num=k)
noncomputable def wyN (p:Plc) (t:Trf) (f:Far) (cs:List ByteArray):Int:=
 if f.rou=0 then 0 else if ralF (rouT t f.rou) cs=true then if milF (rouT t f.rou)<=0 then 0 else (ofN p cs (milF (rouT t f.rou))).2 else 21
theorem rou_litM (o:Option Rou):∃c0 d:D,rouD o=.agg [c0,d,.int .i64 (milF o)]/\c0.one=true/\d.one=true:=by
 cases o with
 |none=>exact⟨_,_,rfl,rfl,rfl⟩
 |some r=>exact⟨_,_,rfl,rfl,rfl⟩
section
variable {n : Nat}
theorem PMiles_n {p:Plc} (hp:PlG p) (hn:50000000<=n) (s t:ByteArray):∀st S,Yi E (Yb E n) st S 179 [.agg p.enc,.str s,.str t]=some (.tup [.int .i64 (milN p s t).1,.int .i64 (milN p s t).2],S):=by
 obtain⟨q,e,h,c⟩:=PMiles_x (n:=n) p hp.apl hp.dl hp.cz hp.dz hn s t
 have hx:∃z:Int×Int,MilS p s t z.1 z.2:=⟨(q,e),h⟩
 have:milN p s t=(q,e):=by
  unfold milN
  rw[dif_pos hx]
  obtain⟨e1,e2⟩:=hx.choose_spec.uniq h
  exact Prod.ext e1 e2
 rw[this]
 exact c
theorem PWay_x {p:Plc} (hp:PlG p) (c:List ByteArray) (cx:Bool) (hc:c.length<=1048577) (hn:50000001<=n):∀st S,Yi E (Yb E n) st S 125 [.agg p.enc,.sl 1 (c.map Cnd.encT) cx]=some (.tup [.int .i64 (wayF (milN p) c 0).1,.int .i64 (wayF (milN p) c 0).2],S):=by
 obtain⟨m,rfl⟩:∃m,n=m+1:=⟨n-1,by omega⟩
 have cm:=λx y=>PMiles_n (n:=m) hp (by omega) x y
 generalize milN p=mi at*
 obtain⟨z,hz⟩:∃z,z=wayF mi c 0:=⟨_,rfl⟩
 rw[<-hz]
 have:WO (Yb E (m+1) 125 [.agg p.enc,.sl 1 (c.map Cnd.encT) cx] []) λr T=>r=.tup [.int .i64 z.1,.int .i64 z.2]:=by
  simp only[Plc.enc]at cm ⊢
  refine Ye Tryz.func125 rfl (by decide) rfl 37 rfl (λa hal ha=>?_)
  obtain⟨h0,h1⟩:=aQ2 ha
  clear ha
  obtain⟨V0,hV0⟩:∃V0:List Ob,V0=[Ob.row 2 [[.sl 5 (p.aps.map Apt.enc) p.apsx,.sl 3 (p.dts.map Dst.enc) p.dtsx]]]:=⟨_,rfl⟩
  have g0:V0[0]?=some (Ob.row 2 [[.sl 5 (p.aps.map Apt.enc) p.apsx,.sl 3 (p.dts.map Dst.enc) p.dtsx]]):=by rw[hV0];rfl
  refine Ya (λa V=>V=V0/\gQ a 37 (a[2]?=some (.loc 0 0 0)) [(1,.sl 1 (c.map Cnd.encT) cx)]) ?_ ?_
  ·simp only[push_cast,hal,h0,h1,↓WX,simprocAttr]
   exact hV0.symm
  clear hV0
  rintro a V ⟨rfl,hal,h1,h2⟩
  refine Ya (λa W=>W=V/\gQ a 37 (a[6]?=some (.int .i64 0)) [(1,.sl 1 (c.map Cnd.encT) cx),(2,.loc 0 0 0)]) ?_ ?_
  ·simp only[push_cast,hal,h1,h2,↓WX,simprocAttr]
  rintro a W ⟨rfl,hal,h1,h2,h6⟩
  refine Za (λa T=>∃v:Int,z=(v,0)/\a[6]?=some (.int .i64 v)/\a.length=37) ?_ ?_
  ·simp only[push_cast,↓WX,simprocAttr]
   refine Yk (λi a T=>(T=W/\(∃j:Int,a[7]?=some (.int .i64 j)/\j=(i:Int)+1)/\∃v:Int,a[6]?=some (.int .i64 v)/\z=wayF mi (c.drop i) v)/\a.length=37/\a[1]?=some (.sl 1 (c.map Cnd.encT) cx)/\a[2]?=some (.loc 0 0 0)) c.length ?_ (by omega) ?_
   ·simp only[push_cast,hal,h1,h2,h6,simprocAttr,WY]
    exact⟨⟨1,rfl,rfl⟩,0,rfl,hz⟩
   clear hz
   rintro i a T hi ⟨⟨rfl,⟨j,h7,hj⟩,v,h6,e⟩,hal,h1,h2⟩
   by_cases hjl:j<c.length
   case neg=>
    rw[wayF_end (by omega)]at e
    simp only[push_cast,hal,h1,h6,h7,hjl,↓WX,simprocAttr,WY]
    exact⟨v,e,rfl⟩
   have hlt:i<c.length:=by omega
   have hlt1:i+1<c.length:=by omega
   obtain⟨x,hx⟩:∃x,c[i]?=some x:=⟨c[i],by simp⟩
   obtain⟨y,hy⟩:∃y,c[i+1]?=some y:=⟨c[i+1],by simp⟩
   have hj0:j-1=(i:Int):=by omega
   have hjn:j.toNat=i+1:=by omega
   have hge:(0<=j)=True:=eq_true (by omega)
   have hwj:IntKind.i64.wrap (j-1)=(i:Int):=by rw[hj0];exact Yf (by omega) (by omega)
   have cm:=cm x y
   rw[wayF_drop hx hy]at e
   generalize mi x y=q at*
   obtain⟨q1,q2⟩:=q
   dsimp only at cm e
   by_cases c2:q2=0
   ·rw[if_pos c2]at e
    subst c2
    simp(maxSteps:=1000000)(disch:=omega)only[push_cast,Vp,hal,h1,h2,h6,h7,g0,hjl,hlt,hx,hy,hwj,hjn,hge,cm,Cnd.encT,Yf,decide_true,true_and,↓WX,simprocAttr]
    exact⟨⟨_,rfl,by push_cast<;>omega⟩,_,rfl,e⟩
   ·rw[if_neg c2]at e
    subst e
    simp only[push_cast,Vo,hal,h1,h2,h7,g0,hjl,hx,hy,hwj,hjn,hge,cm,c2,Cnd.encT,Tryz.f125,↓WX,simprocAttr,WY]
  rintro a T ⟨v,rfl,h6,hal⟩
  simp only[push_cast,hal,h6,Tryz.f125,↓WX,simprocAttr]
 obtain⟨_,T,hr,rfl⟩:=this
 exact λst S=>Yd rfl (by simp only[Yc,Yg,Yt,D.pure,Cnd.encT_pure,Ua]) hr rfl
theorem POf_x {p:Plc} (hp:PlG p) (c:List ByteArray) (cx:Bool) (hc:c.length<=1048577) (k:Int) (hn:50000002<=n):∀st S,Yi E (Yb E n) st S 67 [.agg p.enc,.sl 1 (c.map Cnd.encT) cx,.int .i64 k]=some (.tup [.int .i64 (ofN p c k).1,.int .i64 (ofN p c k).2],S):=by
 obtain⟨m,rfl⟩:∃m,n=m+1:=⟨n-1,by omega⟩
 have cw:=PWay_x (n:=m) hp c cx hc (by omega)
 obtain⟨z,hz⟩:∃z,z=ofN p c k:=⟨_,rfl⟩
 rw[<-hz]
 unfold ofN at hz
 generalize wayF (milN p) c 0=w at*
 obtain⟨w1,w2⟩:=w
 dsimp only at*
 have cl:=PLevel_x (n:=m) w1 k (by omega)
 have:WO (Yb E (m+1) 67 [.agg p.enc,.sl 1 (c.map Cnd.encT) cx,.int .i64 k] []) λr T=>r=.tup [.int .i64 z.1,.int .i64 z.2]:=by
  simp only[Plc.enc]at cw ⊢
  refine Ye Tryz.func67 rfl (by decide) rfl 24 rfl (λa hal ha=>?_)
  obtain⟨h0,h1,h2⟩:=aQ3 ha
  clear ha
  by_cases c2:w2=0
  ·rw[if_pos c2]at hz
   rw[<-hz]at cl
   simp only[push_cast,Vp,hal,h0,h1,h2,cw,cl,c2,Tryz.f67,↓WX,simprocAttr]
  ·rw[if_neg c2]at hz
   subst hz
   simp only[push_cast,Vo,hal,h0,h1,cw,c2,Tryz.f67,↓WX,simprocAttr]
 obtain⟨_,T,hr,rfl⟩:=this
 exact λst S=>Yd rfl (by simp only[Yc,Yg,Yt,D.pure,Cnd.encT_pure,Ua]) hr rfl
theorem Pway_x {p:Plc} (hp:PlG p) {t:Trf} (ht:TrG t) (f:Far) (c:List ByteArray) (cx:Bool) (hc:c.length<=1048577) (hn:50000003<=n):∀st S,Yi E (Yb E n) st S 65 [.agg p.enc,.agg t.enc,.agg f.enc,.sl 1 (c.map Cnd.encT) cx]=some (.int .i64 (wyN p t f c),S):=by
 obtain⟨m,rfl⟩:∃m,n=m+1:=⟨n-1,by omega⟩
 have hpp:Yp [.agg p.enc,.agg t.enc,.agg f.enc,.sl 1 (c.map Cnd.encT) cx]=true:=by simp only[Yc,Yg,Yt,Ja,Far_pure,D.pure,Cnd.encT_pure,Ua]
 have cr:=PRouting_x (n:=m) (t.fares.map Far.enc) (t.rules.map Rul.enc) (t.taxes.map Tx.enc) t.fx t.rx t.tx t.rous t.ox (Js _) (Ruls_pure _) (Jq _) ht.ol (by omega) f.rou
 have ca:=PRAllows_x (n:=m) (rouT t f.rou) (λr hr=>ht.lk r (List.mem_of_find?_eq_some hr)) c cx hc (by omega)
 obtain⟨z,hz⟩:∃z,z=wyN p t f c:=⟨_,rfl⟩
 rw[<-hz]
 unfold wyN at hz
 have co:=POf_x (n:=m) hp c cx hc (milF (rouT t f.rou)) (by omega)
 rw[show (t.rous.find? λr=>decide (r.num=f.rou))=rouT t f.rou from rfl]at cr
 generalize (rouT t f.rou).isSome=bs at*
 obtain⟨c0,c1,hrd,n0,n1⟩:=rou_litM (rouT t f.rou)
 rw[hrd]at cr ca
 generalize ralF (rouT t f.rou) c=ra at*
 generalize milF (rouT t f.rou)=mf at*
 generalize ofN p c mf=om at*
 obtain⟨o1,o2⟩:=om
 simp only[D.one]at n0 n1
 simp only[Plc.enc,Trf.enc,Far.enc]at hpp cr ca co ⊢
 dsimp only at co hz
 have:WO (Yb E (m+1) 65 [.agg [.sl 5 (p.aps.map Apt.enc) p.apsx,.sl 3 (p.dts.map Dst.enc) p.dtsx],.agg [.sl 9 (t.fares.map Far.enc) t.fx,.sl 15 (t.rules.map Rul.enc) t.rx,.sl 3 (t.rous.map Rou.enc) t.ox,.sl 7 (t.taxes.map Tx.enc) t.tx],.agg [.str f.car,.str f.frm,.str f.dst,.str f.bas,.str f.cls,.bool f.rnd,.int .i64 f.amt,.int .i64 f.rul,.int .i64 f.rou],.sl 1 (c.map Cnd.encT) cx] []) λr T=>r=.int .i64 z:=by
  clear hpp hrd
  refine Ye Tryz.func65 rfl (by decide) rfl 39 rfl (λa hal ha=>?_)
  obtain⟨h0,h1,h2,h3⟩:=aQ4 ha
  clear ha
  by_cases c2:f.rou=0
  ·rw[if_pos c2]at hz
   subst hz
   simp only[push_cast,hal,h0,h1,h2,c2,Tryz.f65,↓WX,simprocAttr,WY]
  rw[if_neg c2]at hz
  cases ra
  ·have hz:z=21:=hz
   subst hz
   simp only[push_cast,hal,h0,h1,h2,h3,c2,cr,ca,n0,n1,Tryz.f65,↓WX,simprocAttr,WY]
  rw[if_pos rfl]at hz
  by_cases c3:mf<=0
  ·rw[if_pos c3]at hz
   subst hz
   simp only[push_cast,hal,h0,h1,h2,h3,c2,c3,cr,ca,n0,n1,Tryz.f65,↓WX,simprocAttr,WY]
  ·rw[if_neg c3]at hz
   subst hz
   simp only[push_cast,hal,h0,h1,h2,h3,c2,c3,cr,ca,co,n0,n1,Tryz.f65,↓WX,simprocAttr,WY]
 obtain⟨_,T,hr,rfl⟩:=this
 exact λst S=>Yd rfl hpp hr rfl
end
end Go.Proofs.YtaklebjoenophaaGreat.Dm
