/-
  Percentages, surcharges and what passengers pay: the program, exactly.
  The reference's percentages, surcharges, ways and routings, exactly.
  Journeys that fit; of two valid prices of a journey just one is better: as a run of the machine.
-/
import Derived.Test.YtaklebjoenophaaGreatRmA
import Derived.Test.YtaklebjoenophaaGreatPrL
set_option maxHeartbeats 64000000
set_option maxRecDepth 100000
set_option linter.unusedSimpArgs false
set_option linter.unusedVariables false
namespace Go.Proofs.YtaklebjoenophaaGreat.Dm
open Go Gw
def pctF (a h:Int):Int×Int:=if 1099511627776<a then (0,11) else if 1099511627776<(2*(a*h)+10000) / 20000 then (0,11) else ((2*(a*h)+10000) / 20000,0)
def lvlF (m k:Int):Int×Int:=
 if m<0∨1099511627776<m∨k<1∨1099511627776<k then (0,2)
 else if m*100<=k*100 then (0,0) else if m*100<=k*105 then (5,0) else if m*100<=k*110 then (10,0) else if m*100<=k*115 then (15,0) else if m*100<=k*120 then (20,0) else if m*100<=k*125 then (25,0) else (0,22)
def aplF (a k:Int):Int×Int:=if k<0∨25<k∨¬k.tmod 5=0 then (0,2) else pctF a ((100+k)*100)
def pcsL (o:Option Rul):List (ByteArray×Int):=match o with |none=>[] |some r=>r.pcs
def payF (o:Option Rul) (s:ByteArray) (a:Int):Int×Int:=match (pcsL o).find? λp=>decide (p.1=s) with |none=>pctF a 10000 |some p=>pctF a (100*p.2)
theorem uw {x:Int} (h0:0<=x) (h1:x<=18446744073709551615):IntKind.u64.wrap x=x:=by
 rw[IntKind.wrap_u64]
 omega
section
variable {n : Nat}
theorem PFits_x (x:Int) (hn:1<=n):∀st S,Yi E (Yb E n) st S 134 [.int .i64 x]=some (.bool (decide (-1099511627776<=x) && decide (x<=1099511627776)),S):=by
 obtain⟨m,rfl⟩:∃m,n=m+1:=⟨n-1,by omega⟩
 have:WO (Yb E (m+1) 134 [.int .i64 x] []) λr T=>r=.bool (decide (-1099511627776<=x) && decide (x<=1099511627776)):=by
  refine Ye Tryz.func134 rfl (by decide) rfl 9 rfl (λa hal ha=>?_)
  have h0:=aQ1 ha
  clear ha
  cases e:decide (-1099511627776<=x)
  ·simp only[push_cast,hal,h0,e,Vx,Tryz.f134,↓WX,simprocAttr,WY]
  ·simp only[push_cast,hal,h0,e,Vx,Tryz.f134,↓WX,simprocAttr,WY]
 obtain⟨_,T,ho,rfl⟩:=this
 exact λst S=>Yd rfl rfl ho rfl
theorem PSize_x (x:Int) (h0:0<=x) (h1:x<=1099511627776) (hn:1<=n):∀st S,Yi E (Yb E n) st S 181 [.int .i64 x]=some (.int .u64 x,S):=by
 obtain⟨m,rfl⟩:∃m,n=m+1:=⟨n-1,by omega⟩
 have q:(x<0)=False:=eq_false (by omega)
 have w:IntKind.u64.wrap x=x:=uw (by omega) (by omega)
 have:WO (Yb E (m+1) 181 [.int .i64 x] []) λr T=>r=.int .u64 x:=by
  refine Ye Tryz.func181 rfl (by decide) rfl 10 rfl (λa hal ha=>?_)
  have h0:=aQ1 ha
  clear ha
  simp only[push_cast,hal,h0,q,w,Tryz.f181,↓WX,simprocAttr]
 obtain⟨_,T,ho,rfl⟩:=this
 exact λst S=>Yd rfl rfl ho rfl
end
section
variable {n : Nat}
theorem RAmount02_x (hn:1<=n) (x:Int):∀st S,Yi E (Yb E n) st S 193 [.int .i64 x]=some (.bool (decide (-1099511627776<=x/\x<=1099511627776)),S):=by
 obtain⟨m,rfl⟩:∃m,n=m+1:=⟨n-1,by omega⟩
 have:WO (Yb E (m+1) 193 [.int .i64 x] []) λr T=>∃b:Bool,r=.bool b/\(b=true↔ -1099511627776<=x/\x<=1099511627776):=by
  obtain⟨K,hK⟩:∃K:Prop,K↔(-1099511627776<=x/\x<=1099511627776):=⟨_,Iff.rfl⟩
  rw[<-hK]
  refine Ye Tryz.func193 rfl (by decide) rfl 9 rfl (λa hal ha=>?_)
  have h0:=aQ1 ha
  clear ha
  by_cases c1:x>= -1099511627776
  case neg=>
   have d1:decide (x>= -1099511627776)=false:=Ud c1
   simp only[push_cast,hal,h0,d1,Tryz.f193,↓WX,simprocAttr]
   exact⟨_,rfl,by simp only[hK,reduceCtorEq,false_iff];omega⟩
  have d1:decide (x>= -1099511627776)=true:=Ue c1
  by_cases c2:x<=1099511627776
  case neg=>
   have d2:decide (x<=1099511627776)=false:=Ud c2
   simp only[push_cast,hal,h0,d1,d2,Tryz.f193,↓WX,simprocAttr]
   exact⟨_,rfl,by simp only[hK,reduceCtorEq,false_iff];omega⟩
  have d2:decide (x<=1099511627776)=true:=Ue c2
  simp only[push_cast,hal,h0,d1,d2,Tryz.f193,↓WX,simprocAttr]
  exact⟨_,rfl,by simp only[hK,true_iff];omega⟩
 obtain⟨_,T,ho,b,rfl,hb⟩:=this
 have e:b=decide (-1099511627776<=x/\x<=1099511627776):=Bool.eq_iff_iff.2 (by rw[hb,Up])
 rw[<-e]
 exact λst S=>Yd rfl rfl ho rfl
theorem RFloor_x (hn:1<=n) (x y:Int) (hx:0<=x) (hx1:x<=9223372036854775807) (hy:0<y):∀st S,Yi E (Yb E n) st S 194 [.int .i64 x,.int .i64 y]=some (.tup [.int .i64 (x / y),.int .i64 (x % y)],S):=by
 obtain⟨m,rfl⟩:∃m,n=m+1:=⟨n-1,by omega⟩
 have e1:Int.tdiv x y=x / y:=Int.tdiv_eq_ediv_of_nonneg hx
 have e2:x.tmod y=x % y:=Int.tmod_eq_emod_of_nonneg hx
 have b0:0<=x / y:=Int.ediv_nonneg hx (by omega)
 have b1:x / y<=x:=Int.ediv_le_self _ hx
 have hw:IntKind.i64.wrap (x / y)=x / y:=Yf (by omega) (by omega)
 have hm0:¬x % y<0:=by have:=Int.emod_nonneg x (show y≠0 by omega);omega
 have:WO (Yb E (m+1) 194 [.int .i64 x,.int .i64 y] []) λr T=>r=.tup [.int .i64 (x / y),.int .i64 (x % y)]:=by
  refine Ye Tryz.func194 rfl (by decide) rfl 23 rfl (λa hal ha=>?_)
  obtain⟨h0,h1⟩:=aQ2 ha
  clear ha
  have hy0:¬y=0:=by omega
  simp only[push_cast,hal,h0,h1,hy0,e1,e2,hw,hm0,Tryz.f194,↓WX,simprocAttr]
 obtain⟨_,T,ho,rfl⟩:=this
 exact λst S=>Yd rfl rfl ho rfl
theorem RSize_x (hn:1<=n) (x:Int) (hx:0<=x):∀st S,Yi E (Yb E n) st S 195 [.int .i64 x]=some (.int .i64 x,S):=by
 obtain⟨m,rfl⟩:∃m,n=m+1:=⟨n-1,by omega⟩
 have:WO (Yb E (m+1) 195 [.int .i64 x] []) λr T=>r=.int .i64 x:=by
  refine Ye Tryz.func195 rfl (by decide) rfl 8 rfl (λa hal ha=>?_)
  have h0:=aQ1 ha
  clear ha
  have c1:¬x<0:=by omega
  simp only[push_cast,hal,h0,c1,Tryz.f195,↓WX,simprocAttr]
 obtain⟨_,T,ho,rfl⟩:=this
 exact λst S=>Yd rfl rfl ho rfl
theorem pct_split {x y:Int} (hx:0<=x) (hy:0<=y):(2*(x*y)+10000) / 20000=x*(y / 10000)+(2*x*(y % 10000)+10000) / 20000:=by
 have h1:y=10000*(y / 10000)+y % 10000:=(Int.mul_ediv_add_emod y 10000).symm
 have h2:x*y=10000*(x*(y / 10000))+x*(y % 10000):=by
  conv=>lhs;rw[h1]
  rw[Int.mul_add,Int.mul_left_comm]
 rw[h2,Int.mul_assoc 2 x]
 omega
theorem RPercent_x (hn:2<=n) (x y:Int) (hx:0<=x) (hx1:x<=1099511627776) (hy:0<=y) (hy1:y<=100000):∀st S,Yi E (Yb E n) st S 143 [.int .i64 x,.int .i64 y]=some (.tup [.int .i64 (pctF x y).1,.int .i64 (pctF x y).2],S):=by
 obtain⟨m,rfl⟩:∃m,n=m+1:=⟨n-1,by omega⟩
 have k1:=RAmount02_x (n:=m) (by omega)
 have ka:decide (-1099511627776<=x/\x<=1099511627776)=true:=Ue (by omega)
 have kb:decide (-1099511627776<=y/\y<=1099511627776)=true:=Ue (by omega)
 have k1x:=k1 x
 have k1y:=k1 y
 rw[ka]at k1x
 rw[kb]at k1y
 obtain⟨w,hw⟩:∃w,w=y / 10000:=⟨_,rfl⟩
 obtain⟨r,hr⟩:∃r,r=y % 10000:=⟨_,rfl⟩
 have k3:=RFloor_x (n:=m) (by omega) y 10000 hy (by omega) (by omega)
 rw[<-hw,<-hr]at k3
 have w0:0<=w:=by omega
 have w1:w<=10:=by omega
 have r0:0<=r:=by omega
 have r1:r<=9999:=by omega
 have k4:=RSize_x (n:=m) (by omega) w w0
 have k5:=RSize_x (n:=m) (by omega) x hx
 obtain⟨P,hP⟩:∃P,P=x*w:=⟨_,rfl⟩
 obtain⟨Q,hQ⟩:∃Q,Q=2*x*r:=⟨_,rfl⟩
 have P0:0<=P:=by rw[hP];exact Int.mul_nonneg hx w0
 have P1:P<=10995116277760:=by
  have:=Int.mul_le_mul hx1 w1 w0 (by omega)
  rw[<-hP]at this
  omega
 have Q0:0<=Q:=by rw[hQ];exact Int.mul_nonneg (by omega) r0
 have Q1:Q<=2*1099511627776*9999:=by
  have:=Int.mul_le_mul (show 2*x<=2*1099511627776 by omega) r1 r0 (by omega)
  rw[<-hQ]at this
  omega
 have k6:=RFloor_x (n:=m) (by omega) (Q+10000) 20000 (by omega) (by omega) (by omega)
 obtain⟨z,hz⟩:∃z,z=(Q+10000) / 20000:=⟨_,rfl⟩
 obtain⟨v,hv⟩:∃v,v=(Q+10000) % 20000:=⟨_,rfl⟩
 rw[<-hz,<-hv]at k6
 have hsp:=pct_split hx hy
 rw[<-hw,<-hr,<-hQ,<-hP,<-hz]at hsp
 have hpc:pctF x y=if 1099511627776<P+z then (0,11) else (P+z,0):=by
  unfold pctF
  rw[if_neg (by omega),hsp]
 have z0:0<=z:=by omega
 have z1:z<=1099511627776:=by omega
 have e1:IntKind.i64.wrap (2*x)=2*x:=Yf (by omega) (by omega)
 have e2:IntKind.i64.wrap (2*x*r)=Q:=by rw[<-hQ];exact Yf (by omega) (by omega)
 have e3:IntKind.i64.wrap (Q+10000)=Q+10000:=Yf (by omega) (by omega)
 have e4:IntKind.i64.wrap (x*w)=P:=by rw[<-hP];exact Yf (by omega) (by omega)
 have e5:IntKind.i64.wrap (P+z)=P+z:=Yf (by omega) (by omega)
 have k7:=k1 (P+z)
 clear hQ hv hz
 rw[hpc]
 obtain⟨o,ho⟩:∃o:Int×Int,o=if 1099511627776<P+z then (0,11) else (P+z,0):=⟨_,rfl⟩
 rw[<-ho]
 have:WO (Yb E (m+1) 143 [.int .i64 x,.int .i64 y] []) λr T=>r=.tup [.int .i64 o.1,.int .i64 o.2]:=by
  refine Ye Tryz.func143 rfl (by decide) rfl 54 rfl (λa hal ha=>?_)
  obtain⟨h0,h1⟩:=aQ2 ha
  clear ha
  refine Ya (λa V=>V=[]/\gQ a 54 (a[1]?=some (.int .i64 y)) [(0,.int .i64 x)]) ?_ ?_
  ·simp only[push_cast,hal,h0,h1,↓WX,simprocAttr]
  rintro a V ⟨rfl,hal,h0,h1⟩
  refine Ya (λa V=>V=[]/\gQ a 54 (a[1]?=some (.int .i64 y)) [(0,.int .i64 x)]) ?_ ?_
  ·simp only[push_cast,hal,h0,h1,k1x,k1y,↓WX,simprocAttr,WY]
  rintro a V ⟨rfl,hal,h0,h1⟩
  refine Ya (λa V=>V=[]/\gQ a 54 (a[7]?=some (.int .i64 r)) [(0,.int .i64 x),(6,.int .i64 w)]) ?_ ?_
  ·simp only[push_cast,hal,h0,h1,k3,↓WX,simprocAttr]
  rintro a V ⟨rfl,hal,h0,h6,h7⟩
  have hdv:0<x->IntKind.i64.wrap (Int.tdiv 2199023255552 x)=2199023255552 / x:=λh=>by
   have e:=Int.tdiv_eq_ediv_of_nonneg (a:=2199023255552) (b:=x) (by omega)
   have b0:=Int.ediv_nonneg (a:=2199023255552) (b:=x) (by omega) hx
   have b1:=Int.ediv_le_self (a:=2199023255552) x (by omega)
   rw[e]
   exact Yf (by omega) (by omega)
  by_cases c3:0<x/\2199023255552 / x<w
  ·obtain⟨hx0,hlt⟩:=c3
   have d3:decide (x=0)=false:=Ud (by omega)
   have hx2:¬x=0:=by omega
   have e3:decide (w>IntKind.i64.wrap (Int.tdiv 2199023255552 x))=true:=Ue (by rw[hdv hx0];exact hlt)
   have hbig:1099511627776<P+z:=by
    have h1:=Int.mul_le_mul_of_nonneg_left (show 2199023255552 / x+1<=w by omega) hx
    have h2:=Int.mul_ediv_add_emod 2199023255552 x
    have h3:=Int.emod_lt_of_pos 2199023255552 hx0
    rw[Int.mul_add,Int.mul_one,<-hP]at h1
    omega
   have ho':o=(0,11):=by rw[ho,if_pos hbig]
   rw[ho']
   simp only[push_cast,Vn,Vo,hal,h0,h6,k4,k5,hx2,e3,Tryz.f143,↓WX,simprocAttr]
  refine Ya (λa V=>V=[]/\gQ a 54 (a[7]?=some (.int .i64 r)) [(0,.int .i64 x),(6,.int .i64 w)]) ?_ ?_
  ·by_cases hx0:0<x
   ·have d3:decide (x=0)=false:=Ud (by omega)
    have hx2:¬x=0:=by omega
    have e3:decide (w>IntKind.i64.wrap (Int.tdiv 2199023255552 x))=false:=Ud (by rw[hdv hx0];omega)
    simp only[push_cast,Vn,Vo,hal,h0,h6,h7,k4,k5,hx2,e3,↓WX,simprocAttr]
   ·have d3:decide (x=0)=true:=Ue (by omega)
    simp only[push_cast,decide_not,hal,h0,h6,h7,d3,↓WX,simprocAttr,WY]
  rintro a V ⟨rfl,hal,h0,h6,h7⟩
  refine Ya (λa V=>V=[]/\gQ a 54 (a[8]?=some (.int .i64 z)) [(0,.int .i64 x),(6,.int .i64 w)]) ?_ ?_
  ·simp only[push_cast,hal,h0,h6,h7,e1,e2,e3,k6,↓WX,simprocAttr]
  rintro a V ⟨rfl,hal,h0,h6,h8⟩
  by_cases c4:1099511627776<P+z
  ·have ho':o=(0,11):=by rw[ho,if_pos c4]
   have k8:decide (-1099511627776<=P+z/\P+z<=1099511627776)=false:=Ud (by omega)
   rw[k8]at k7
   rw[ho']
   simp only[push_cast,hal,h0,h6,h8,e4,e5,k7,Tryz.f143,↓WX,simprocAttr,WY]
  ·have ho':o=(P+z,0):=by rw[ho,if_neg c4]
   have k8:decide (-1099511627776<=P+z/\P+z<=1099511627776)=true:=Ue (by omega)
   rw[k8]at k7
   rw[ho']
   simp only[push_cast,hal,h0,h6,h8,e4,e5,k7,Tryz.f143,↓WX,simprocAttr,WY]
 obtain⟨_,T,ho',rfl⟩:=this
 exact λst S=>Yd rfl rfl ho' rfl
theorem RLevel_x (hn:100<=n) (x y:Int):∀st S,Yi E (Yb E n) st S 142 [.int .i64 x,.int .i64 y]=some (.tup [.int .i64 (lvlF x y).1,.int .i64 (lvlF x y).2],S):=by
 obtain⟨m,rfl⟩:∃m,n=m+1:=⟨n-1,by omega⟩
 obtain⟨z,hz⟩:∃z,z=lvlF x y:=⟨_,rfl⟩
 rw[<-hz]
 unfold lvlF at hz
 have:WO (Yb E (m+1) 142 [.int .i64 x,.int .i64 y] []) λr T=>r=.tup [.int .i64 z.1,.int .i64 z.2]:=by
  refine Ye Tryz.func142 rfl (by decide) rfl 33 rfl (λa hal ha=>?_)
  obtain⟨h0,h1⟩:=aQ2 ha
  clear ha
  by_cases c1:x<0
  ·rw[if_pos (by omega)]at hz
   subst hz
   simp only[push_cast,hal,h0,c1,Tryz.f142,↓WX,simprocAttr]
  by_cases c2:1099511627776<x
  ·rw[if_pos (by omega)]at hz
   subst hz
   simp only[push_cast,Vn,hal,h0,c1,c2,Tryz.f142,↓WX,simprocAttr]
  by_cases c3:y<1
  ·rw[if_pos (by omega)]at hz
   subst hz
   simp only[push_cast,Vn,hal,h0,h1,c1,c2,c3,Tryz.f142,↓WX,simprocAttr]
  by_cases c4:1099511627776<y
  ·rw[if_pos (by omega)]at hz
   subst hz
   simp only[push_cast,Vn,hal,h0,h1,c1,c2,c3,c4,Tryz.f142,↓WX,simprocAttr]
  rw[if_neg (by omega)]at hz
  obtain⟨R,hR⟩:∃R:Nat->Prop,∀i,R i↔ ∀j:Nat,j<i->¬x*100<=y*(100+5*(j:Int)):=⟨_,λ_=>Iff.rfl⟩
  simp only[push_cast,Vn,hal,h0,h1,c1,c2,c3,c4,↓WX,simprocAttr]
  refine Yk (λi a T=>(T=[]/\R i/\∃p:Int,a[6]?=some (.int .i64 p)/\p=5*(i:Int))/\a.length=33/\a[0]?=some (.int .i64 x)/\a[1]?=some (.int .i64 y)) 6 ?_ (by omega) ?_
  ·simp only[push_cast,hal,h0,h1,simprocAttr,WY]
   exact⟨(hR 0).2 λj hj=>absurd hj (Vw j),_,rfl,rfl⟩
  rintro i a T hi ⟨⟨rfl,hr,p,h6,hp⟩,hal,h0,h1⟩
  rw[hR]at hr
  have q0:=hr 0
  have q1:=hr 1
  have q2:=hr 2
  have q3:=hr 3
  have q4:=hr 4
  have q5:=hr 5
  have w5:IntKind.i64.wrap (y*(100+p))=y*(100+p):=Yf (by
   have:=Int.mul_nonneg (show 0<=y by omega) (show 0<=100+p by omega)
   omega) (by
   have:=Int.mul_le_mul (show y<=1099511627776 by omega) (show 100+p<=130 by omega) (show 0<=100+p by omega) (by omega)
   omega)
  by_cases c5:p<=25
  case neg=>
   have hz':z=(0,22):=by
    have:5<i:=by omega
    rw[hz,if_neg (by have:=q0 (by omega);omega),if_neg (by have:=q1 (by omega);omega),if_neg (by have:=q2 (by omega);omega),if_neg (by have:=q3 (by omega);omega),if_neg (by have:=q4 (by omega);omega),if_neg (by have:=q5 (by omega);omega)]
   rw[hz']
   simp only[push_cast,hal,h6,c5,Tryz.f142,↓WX,simprocAttr]
  have hi6:i<6:=by omega
  cases e:decide (x*100<=IntKind.i64.wrap (y*(100+p)))
  ·have e':=Vc e
   rw[w5,hp]at e'
   have hrn:R (i+1):=(hR _).2 λj hj=>by
    rcases Kw (Nat.le_of_lt_succ hj) with h |rfl
    ·exact hr j h
    ·exact e'
   simp(maxSteps:=1000000)(disch:=omega)only[push_cast,hal,h0,h1,h6,c5,e,hi6,Yf,↓WX,simprocAttr]
   exact⟨hrn,_,rfl,by push_cast<;>omega⟩
  ·have e':=Vb e
   rw[w5,hp]at e'
   have hz':z=(p,0):=by
    rw[hz,hp]
    have hcs:i=0∨i=1∨i=2∨i=3∨i=4∨i=5:=by omega
    rcases hcs with rfl |rfl |rfl |rfl |rfl |rfl
    ·rw[if_pos (by omega)];rfl
    ·rw[if_neg (by have:=q0 (by omega);omega),if_pos (by omega)];rfl
    ·rw[if_neg (by have:=q0 (by omega);omega),if_neg (by have:=q1 (by omega);omega),if_pos (by omega)];rfl
    ·rw[if_neg (by have:=q0 (by omega);omega),if_neg (by have:=q1 (by omega);omega),if_neg (by have:=q2 (by omega);omega),if_pos (by omega)];rfl
    ·rw[if_neg (by have:=q0 (by omega);omega),if_neg (by have:=q1 (by omega);omega),if_neg (by have:=q2 (by omega);omega),if_neg (by have:=q3 (by omega);omega),if_pos (by omega)];rfl
    ·rw[if_neg (by have:=q0 (by omega);omega),if_neg (by have:=q1 (by omega);omega),if_neg (by have:=q2 (by omega);omega),if_neg (by have:=q3 (by omega);omega),if_neg (by have:=q4 (by omega);omega),if_pos (by omega)];rfl
   rw[hz']
   simp(maxSteps:=1000000)(disch:=omega)only[push_cast,hal,h0,h1,h6,c5,e,Yf,Tryz.f142,↓WX,simprocAttr]
 obtain⟨_,T,ho,rfl⟩:=this
 exact λst S=>Yd rfl rfl ho rfl
theorem RApply_x (hn:100<=n) (x y:Int) (hx:0<=x) (hx1:x<=1099511627776):∀st S,Yi E (Yb E n) st S 88 [.int .i64 x,.int .i64 y]=some (.tup [.int .i64 (aplF x y).1,.int .i64 (aplF x y).2],S):=by
 obtain⟨m,rfl⟩:∃m,n=m+1:=⟨n-1,by omega⟩
 obtain⟨z,hz⟩:∃z,z=aplF x y:=⟨_,rfl⟩
 rw[<-hz]
 unfold aplF at hz
 have:WO (Yb E (m+1) 88 [.int .i64 x,.int .i64 y] []) λr T=>r=.tup [.int .i64 z.1,.int .i64 z.2]:=by
  refine Ye Tryz.func88 rfl (by decide) rfl 21 rfl (λa hal ha=>?_)
  obtain⟨h0,h1⟩:=aQ2 ha
  clear ha
  simp only[push_cast,↓WX,simprocAttr]
  refine Yk (λi a T=>(T=[]/\∃p:Int,a[6]?=some (.int .i64 p)/\p=5*(i:Int)/\(0<=y->y.tmod 5=0->p<=y))/\a.length=21/\a[0]?=some (.int .i64 x)/\a[1]?=some (.int .i64 y)) 6 ?_ (by omega) ?_
  ·simp only[push_cast,hal,h0,h1,simprocAttr,WY]
   exact⟨_,rfl,rfl,λh _=>h⟩
  rintro i a T hi ⟨⟨rfl,p,h6,hp,hpy⟩,hal,h0,h1⟩
  by_cases c5:p<=25
  case neg=>
   have hz':z=(0,2):=by
    rw[hz,if_pos]
    by_cases h:y.tmod 5=0
    ·by_cases h0:0<=y
     ·have:=hpy h0 h
      omega
     ·exact .inl (by omega)
    ·exact .inr (.inr h)
   rw[hz']
   simp only[push_cast,hal,h6,c5,Tryz.f88,↓WX,simprocAttr]
  have hi6:i<6:=by omega
  cases e:decide (p=y)
  ·have e':=Vc e
   simp(maxSteps:=1000000)(disch:=omega)only[push_cast,hal,h0,h1,h6,c5,e,hi6,Yf,↓WX,simprocAttr]
   exact⟨_,rfl,by push_cast<;>omega,λh0 h=>by
    have:=hpy h0 h
    rw[Int.tmod_eq_emod_of_nonneg h0]at h
    omega⟩
  ·have e':=Vb e
   have hz':z=pctF x ((100+p)*100):=by
    rw[hz,if_neg,e']
    rw[Int.tmod_eq_emod_of_nonneg (by omega)]
    omega
   have cp:=RPercent_x (n:=m) (by omega) x ((100+p)*100) hx hx1 (by omega) (by omega)
   rw[hz']
   simp(maxSteps:=1000000)(disch:=omega)only[push_cast,hal,h0,h1,h6,c5,e,cp,Yf,Tryz.f88,↓WX,simprocAttr]
 obtain⟨_,T,ho,rfl⟩:=this
 exact λst S=>Yd rfl rfl ho rfl
end
structure Jny where
 p:Plc
 t:Trf
 l:List Wnt
 lx:Bool
 pass:ByteArray
 sale:Int
def Jny.enc (j:Jny):List D:=[.sl 5 (j.p.aps.map Apt.enc) j.p.apsx,.sl 3 (j.p.dts.map Dst.enc) j.p.dtsx,.sl 9 (j.t.fares.map Far.enc) j.t.fx,.sl 15 (j.t.rules.map Rul.enc) j.t.rx,.sl 3 (j.t.rous.map Rou.enc) j.t.ox,.sl 7 (j.t.taxes.map Tx.enc) j.t.tx,.sl 8 (j.l.map Wnt.enc) j.lx,.str j.pass,.int .i64 j.sale]
theorem Jny_pure (j:Jny):Yp j.enc=true:=by
 simp only[D.pure,Yc,Yg,Bool.and_self,Jny.enc,Apts_pure,Dsts_pure,Js,Ruls_pure,Jz,Jq,Jd]
structure JnyB (j:Jny):Prop where
 apr:∀c∈j.p.aps,c.code.size<=1048576/\c.city.size<=1048576/\c.ctry.size<=1048576
 apl:j.p.aps.length<=1048576
 sh:∀a∈j.p.aps,a.sh.length<=1048576
 far:∀f∈j.t.fares,f.car.size<=1048576/\f.bas.size<=1048576/\f.cls.size<=1048576
 rul:∀r∈j.t.rules,RulB r
 rou:∀r∈j.t.rous,r.links.length<=1048576/\∀x∈r.links,x.1.size<=1048576/\x.2.size<=1048576
 tax:∀x∈j.t.taxes,TxB x
 len:j.l.length<=1048576
 dst:∀x∈j.p.dts,x.fr.size<=1048576/\x.to.size<=1048576
structure JnyF (j:Jny):Prop where
 l:j.l.length<=4
 fl:j.t.fares.length<=14
 rl:j.t.rules.length<=8
 ol:j.t.rous.length<=8
 tl:j.t.taxes.length<=8
 al:j.p.aps.length<=12
 dl:j.p.dts.length<=20
structure JnyS (j:Jny):Prop where
 fit:JnyF j
 so:∀a∈j.p.aps,ShOk a.sh
 am:∀f∈j.t.fares,0<=f.amt/\f.amt<=1099511627776
 pc:∀r∈j.t.rules,(∀p∈r.pcs,0<=p.2/\p.2<=1000)/\r.when.KG
 tg:∀x∈j.t.taxes,TxG x
 tm:∀w∈j.l,w.tm
theorem len_fzP {S:List Ob} {d:D} {fs:List (Int×ByteArray)} (h:(d=.nils/\fs=[])∨∃y,d=.sl 2 (fs.map encF) y):dLen Tryz.prog S 51 d=some (.int .i64 fs.length):=by
 rcases h with ⟨rfl,rfl⟩ | ⟨y,rfl⟩
 ·simp only[push_cast]
 ·simp only[push_cast]
section
variable {n : Nat}
theorem fits28_s (hn:8000000<=n) {j:Jny} (hj:JnyB j):∃b,(b=true->JnyS j)/\∀st S,Yi E (Yb E n) st S 8 [.agg j.enc]=some (.bool b,S):=by
 obtain⟨n,rfl⟩:∃k,n=k+1:=⟨n-1,by omega⟩
 have hp:Yp [.agg j.enc]=true:=by rw[Yc,D.pure,Jny_pure];rfl
 obtain⟨bn,-,cn⟩:=near28_c (n:=n) (by omega) j.sale
 obtain⟨bt,htm,ct⟩:=times28_c (n:=n) j.l j.lx hj.len (by omega)
 simp only[Jny.enc]at hp ⊢
 have:WO (Yb E (n+1) 8 [.agg [.sl 5 (j.p.aps.map Apt.enc) j.p.apsx,.sl 3 (j.p.dts.map Dst.enc) j.p.dtsx,.sl 9 (j.t.fares.map Far.enc) j.t.fx,.sl 15 (j.t.rules.map Rul.enc) j.t.rx,.sl 3 (j.t.rous.map Rou.enc) j.t.ox,.sl 7 (j.t.taxes.map Tx.enc) j.t.tx,.sl 8 (j.l.map Wnt.enc) j.lx,.str j.pass,.int .i64 j.sale]] []) λr T=>∃b:Bool,r=.bool b/\(b=true->JnyS j):=by
  refine Ye Tryz.func8 rfl (by decide) rfl 83 rfl (λa hal ha=>?_)
  have h0:=aQ1 ha
  clear ha
  obtain⟨S0,hS0⟩:∃S0,S0=[Ob.row 9 [[.sl 5 (j.p.aps.map Apt.enc) j.p.apsx,.sl 3 (j.p.dts.map Dst.enc) j.p.dtsx,.sl 9 (j.t.fares.map Far.enc) j.t.fx,.sl 15 (j.t.rules.map Rul.enc) j.t.rx,.sl 3 (j.t.rous.map Rou.enc) j.t.ox,.sl 7 (j.t.taxes.map Tx.enc) j.t.tx,.sl 8 (j.l.map Wnt.enc) j.lx,.str j.pass,.int .i64 j.sale]]]:=⟨_,rfl⟩
  have g0:S0[0]?=some (.row 9 [[.sl 5 (j.p.aps.map Apt.enc) j.p.apsx,.sl 3 (j.p.dts.map Dst.enc) j.p.dtsx,.sl 9 (j.t.fares.map Far.enc) j.t.fx,.sl 15 (j.t.rules.map Rul.enc) j.t.rx,.sl 3 (j.t.rous.map Rou.enc) j.t.ox,.sl 7 (j.t.taxes.map Tx.enc) j.t.tx,.sl 8 (j.l.map Wnt.enc) j.lx,.str j.pass,.int .i64 j.sale]]):=by rw[hS0];rfl
  refine Ya (λa V=>V=S0/\a.length=83/\a[1]?=some (.loc 0 0 0)) ?_ ?_
  ·simp only[push_cast,hal,h0,↓WX,simprocAttr]
   exact hS0.symm
  clear hS0
  rintro a V ⟨rfl,hal,h1⟩
  simp only[List.append_eq,Uv,Vr]
  cases c1:decide ((j.l.length:Int)<=4)
  ·simp only[push_cast,hal,h1,g0,c1,Tryz.f8,↓WX,simprocAttr]
   exact⟨false,rfl,λh=>by cases h⟩
  cases bn
  ·simp only[push_cast,hal,h1,g0,c1,cn,Tryz.f8,↓WX,simprocAttr]
   exact⟨false,rfl,λh=>by cases h⟩
  cases bt
  ·simp only[push_cast,hal,h1,g0,c1,cn,ct,Tryz.f8,↓WX,simprocAttr]
   exact⟨false,rfl,λh=>by cases h⟩
  cases c2:decide ((j.t.fares.length:Int)<=14)
  ·simp only[push_cast,hal,h1,g0,c1,cn,ct,c2,Tryz.f8,↓WX,simprocAttr]
   exact⟨false,rfl,λh=>by cases h⟩
  cases c3:decide ((j.t.rules.length:Int)<=8)
  ·simp only[push_cast,hal,h1,g0,c1,cn,ct,c2,c3,Tryz.f8,↓WX,simprocAttr]
   exact⟨false,rfl,λh=>by cases h⟩
  cases c4:decide ((j.t.rous.length:Int)<=8)
  ·simp only[push_cast,hal,h1,g0,c1,cn,ct,c2,c3,c4,Tryz.f8,↓WX,simprocAttr]
   exact⟨false,rfl,λh=>by cases h⟩
  cases c5:decide ((j.t.taxes.length:Int)<=8)
  ·simp only[push_cast,hal,h1,g0,c1,cn,ct,c2,c3,c4,c5,Tryz.f8,↓WX,simprocAttr]
   exact⟨false,rfl,λh=>by cases h⟩
  cases c6:decide ((j.p.aps.length:Int)<=12)
  ·simp only[push_cast,hal,h1,g0,c1,cn,ct,c2,c3,c4,c5,c6,Tryz.f8,↓WX,simprocAttr]
   exact⟨false,rfl,λh=>by cases h⟩
  cases c7:decide ((j.p.dts.length:Int)<=20)
  ·simp only[push_cast,hal,h1,g0,c1,cn,ct,c2,c3,c4,c5,c6,c7,Tryz.f8,↓WX,simprocAttr]
   exact⟨false,rfl,λh=>by cases h⟩
  have q1:=Vb c1
  have q2:=Vb c2
  have q3:=Vb c3
  have q4:=Vb c4
  have q5:=Vb c5
  have q6:=Vb c6
  have q7:=Vb c7
  have hF:JnyF j:=⟨by omega,by omega,by omega,by omega,by omega,by omega,by omega⟩
  obtain⟨d6,f6,z6,-,w6,k6⟩:=PCheck_s (n:=n) (p:=j.p) (by omega) (by omega) (by omega) (λc hc=>by have:=hj.apr c hc;unfold AptR;omega)
  obtain⟨dD,⟨fD,zD,-,wD⟩,kD⟩:=Check24_c (n:=n) (p:=j.p) (t:=j.t) (by omega) ⟨by omega,by omega,by omega,by omega,hj.far,hj.rul,hj.rou,hj.tax⟩ (by omega)
  obtain⟨dE,⟨fE,zE,-,wE⟩,kE⟩:=Check27_c (n:=n) (l:=j.t.taxes) (lx:=j.t.tx) (by omega) hj.tax (by omega)
  have y6:=len_fzP (S:=V) z6
  have yD:=len_fzP (S:=V) zD
  have yE:=len_fzP (S:=V) zE
  simp only[Plc.enc,Trf.enc]at k6 kD
  clear z6 zD zE
  simp only[push_cast]at y6 yD yE
  cases c8:decide ((f6.length:Int)=0)
  ·simp only[push_cast,hal,h1,g0,c1,cn,ct,c2,c3,c4,c5,c6,c7,k6,y6,c8,Tryz.f8,↓WX,simprocAttr]
   exact⟨false,rfl,λh=>by cases h⟩
  cases c9:decide ((fD.length:Int)=0)
  ·simp only[push_cast,hal,h1,g0,c1,cn,ct,c2,c3,c4,c5,c6,c7,k6,y6,c8,kD,yD,c9,Tryz.f8,↓WX,simprocAttr]
   exact⟨false,rfl,λh=>by cases h⟩
  simp only[push_cast,hal,h1,g0,c1,cn,ct,c2,c3,c4,c5,c6,c7,k6,y6,c8,kD,yD,c9,kE,yE,Tryz.f8,↓WX,simprocAttr]
  have e6:f6=[]:=Ug (by have:=Vb c8;omega)
  have eD:fD=[]:=Ug (by have:=Vb c9;omega)
  exact⟨_,rfl,λh=>⟨hF,w6 e6,(wD.2 eD).1,(wD.2 eD).2,wE.2 (Ug (by have:=Vb h;omega)),htm rfl⟩⟩
 obtain⟨_,T,ho,b,rfl,hb⟩:=this
 exact⟨b,hb,λst S=>Yd rfl hp ho rfl⟩
end
end Go.Proofs.YtaklebjoenophaaGreat.Dm
