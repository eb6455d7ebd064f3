/-
  Taxes: how often one is due, and what they come to: the reference, exactly (but for the percentage, which is a function).
  The program's rules and routings of a tariff, its fares, local times and countries: exactly.
-/
import Derived.Test.YtaklebjoenophaaGreatPqA
import Derived.Test.YtaklebjoenophaaGreatTaB
set_option maxHeartbeats 64000000
set_option maxRecDepth 100000
set_option linter.unusedSimpArgs false
set_option linter.unusedVariables false
namespace Go.Proofs.YtaklebjoenophaaGreat.Dm
open Go Gw
def ctyS (p:Plc) (s:ByteArray):ByteArray:=
 match p.aps.find? λa=>a.code.toList == s.toList with
 |some a=>a.ctry
 |none=>match p.aps.find? λa=>a.city.toList == s.toList with
  |some a=>a.ctry
  |none=>ByteArray.mk #[]
def scpF (p:Plc) (x:Tx) (s:Wnt):Bool:=
 if x.scope=0 then decide (ctyS p s.fr=x.land) || decide (ctyS p s.to=x.land) else if x.scope=1 then decide (ctyS p s.fr=x.land) && decide (ctyS p s.to=x.land) else !(decide (ctyS p s.fr=x.land) == decide (ctyS p s.to=x.land))
def trnF (x:Tx) (a b:Wnt):Bool:=decide (a.to=b.fr) && (decide (b.dep>=a.arr) && decide (IntKind.i64.wrap (b.dep-a.arr)<=x.transit))
def optB {α:Type} (f:α->Bool):Option α->Bool
 |none=>false
 |some a=>f a
def dueF (p:Plc) (x:Tx) (u:Option Wnt) (s:Wnt) (v:Option Wnt):Nat:=
 if scpF p x s=false then 0
 else if (decide (x.kind=1) && (!decide (ctyS p s.fr=x.land) || optB (λy=>trnF x y s) u))=true then 0
 else if (decide (x.kind=2) && (!decide (ctyS p s.to=x.land) || optB (λy=>trnF x s y) v))=true then 0
 else 1
def sumD (p:Plc) (x:Tx):Option Wnt->List Wnt->Nat
 |_,[]=>0
 |u,s::ss=>dueF p x u s ss.head? +sumD p x (some s) ss
def timF (p:Plc) (x:Tx) (l:List Wnt) (s:ByteArray):Nat:=
 if (x.free.any λy=>decide (y=s))=true then 0 else if x.kind<1∨4<x.kind then 0 else if x.kind=4 then min (sumD p x none l) 1 else sumD p x none l
theorem dueF_le (p:Plc) (x:Tx) (u:Option Wnt) (s:Wnt) (v:Option Wnt):dueF p x u s v<=1:=by
 unfold dueF
 repeat' split
 all_goals omega
theorem sumD_le (p:Plc) (x:Tx):∀(u:Option Wnt) (l:List Wnt),sumD p x u l<=l.length
 |_,[]=>Uk _
 |u,s::ss=>by
  have:=sumD_le p x (some s) ss
  have:=dueF_le p x u s ss.head?
  rw[sumD,Uu]
  omega
section
variable {n : Nat}
theorem rCty_c {p:Plc} {s:ByteArray} (hn:p.aps.length+2<n) (hz:p.aps.length<=9223372036854775800) (st:Bool) (S:List Ob):Yi E (Yb E n) st S 225 [.agg p.enc,.str s]=some (.str (ctyS p s),S):=by
 obtain⟨m,rfl⟩:∃m,n=m+1:=⟨n-1,by omega⟩
 have c1:=PrFind_c (n:=m) (p:=p) (s:=s) (by omega) hz
 have c2:=rtown_c (n:=m) (p:=p) (s:=s) (by omega) hz
 have:WO (Yb E (m+1) 225 [.agg p.enc,.str s] []) λd _=>d=.str (ctyS p s):=by
  refine Ye Tryz.func225 rfl (by decide) rfl 23 rfl (λa hal ha=>?_)
  obtain⟨h0,h1⟩:=aQ2 ha
  clear ha
  unfold ctyS
  simp only[Plc.enc]at h0 c1 c2
  rcases ha:(p.aps.find? λa=>a.code.toList == s.toList) with _ |a1
  ·rw[ha]at c1 ⊢
   simp only[Xy,zeroApt]at c1
   rcases hb:(p.aps.find? λa=>a.city.toList == s.toList) with _ |a2
   ·rw[hb]at c2 ⊢
    simp only[Xy,zeroApt]at c2
    simp only[push_cast,hal,h0,h1,c1,c2,Tryz.f225,↓WX,simprocAttr,WY]
   ·rw[hb]at c2 ⊢
    simp only[Xy,Apt.enc]at c2
    simp only[push_cast,hal,h0,h1,c1,c2,Tryz.f225,↓WX,simprocAttr,WY]
  ·rw[ha]at c1 ⊢
   simp only[Xy,Apt.enc]at c1
   simp only[push_cast,hal,h0,h1,c1,Tryz.f225,↓WX,simprocAttr,WY]
 obtain⟨d,T,ho,rfl⟩:=this
 exact Yd rfl (by simp[Yc,Yg,D.pure,Yt]) ho rfl
theorem eq_bool (a b:Bool):dEq Tryz.prog 10000 4 (.bool a) (.bool b)=some (a == b):=by
 cases a <;> cases b <;> kernel_rfl
theorem Seg_pure (w:Wnt):Yp w.seg=true:=rfl
theorem Segs_pure (l:List Wnt):Zc (l.map Wnt.seg)=true:=by
 induction l with
 |nil=>rfl
 |cons f fs ih=>rw[Uy,Zw,ih,Seg_pure];rfl
theorem scoped27_x (p:Plc) (hpa:p.aps.length<=1048576) (x:Tx) (s:Wnt) (hn:1048600<=n):∀st S,Yi E (Yb E n) st S 224 [.agg p.enc,.agg x.enc,.agg s.seg]=some (.bool (scpF p x s),S):=by
 obtain⟨m,rfl⟩:∃m,n=m+1:=⟨n-1,by omega⟩
 have hp:Yp [.agg p.enc,.agg x.enc,.agg s.seg]=true:=by simp only[Yc,Yg,D.pure,Yt,Tx_pure,Seg_pure,Ua]
 have c1:=λst S=>rCty_c (n:=m) (p:=p) (s:=s.fr) (by omega) (by omega) st S
 have c2:=λst S=>rCty_c (n:=m) (p:=p) (s:=s.to) (by omega) (by omega) st S
 unfold scpF
 generalize ctyS p s.fr=u at*
 generalize ctyS p s.to=v at*
 simp only[Plc.enc,Tx.enc,Wnt.seg]at hp c1 c2 ⊢
 have:WO (Yb E (m+1) 224 [.agg [.sl 5 (p.aps.map Apt.enc) p.apsx,.sl 3 (p.dts.map Dst.enc) p.dtsx],.agg [.str x.code,.int .i64 x.kind,.str x.land,.int .i64 x.amount,.int .i64 x.scope,.int .i64 x.transit,.sl 1 (x.free.map Cnd.encT) x.freex],.agg [.str s.car,.int .i64 s.num,.int .i64 s.day,.str s.fr,.str s.to,.int .i64 s.dep,.int .i64 s.arr]] []) λr T=>r=.bool (if x.scope=0 then decide (u=x.land) || decide (v=x.land) else if x.scope=1 then decide (u=x.land) && decide (v=x.land) else !(decide (u=x.land) == decide (v=x.land))):=by
  refine Ye Tryz.func224 rfl (by decide) rfl 40 rfl (λa hal ha=>?_)
  obtain⟨h0,h1,h2⟩:=aQ3 ha
  clear ha
  cases e1:decide (u=x.land) <;> cases e2:decide (v=x.land) <;> by_cases k0:x.scope=0
  all_goals first
   | (simp only[if_pos k0]
      simp only[push_cast,hal,h0,h1,h2,c1,c2,e1,e2,k0,Yo,Bool.or_false,Bool.or_true,Bool.or_self,Tryz.f224,↓WX,simprocAttr,WY]
      done)
   | (simp only[if_neg k0]
      by_cases k1:x.scope=1
      ·simp only[if_pos k1]
       simp only[push_cast,hal,h0,h1,h2,c1,c2,e1,e2,k1,Yo,Bool.and_false,Ua,Bool.and_self,Tryz.f224,↓WX,simprocAttr,WY]
      ·simp only[if_neg k1]
       simp only[push_cast,hal,h0,h1,h2,c1,c2,e1,e2,k0,k1,eq_bool,beq_self_eq_true,Yo,Bool.false_beq,Bool.true_beq,Tryz.f224,↓WX,simprocAttr,WY])
 obtain⟨_,T,ho,rfl⟩:=this
 exact λst S=>Yd rfl hp ho rfl
theorem transit27_x (x:Tx) (s u:Wnt) (hn:1<=n):∀st S,Yi E (Yb E n) st S 226 [.agg x.enc,.agg s.seg,.agg u.seg]=some (.bool (trnF x s u),S):=by
 obtain⟨m,rfl⟩:∃m,n=m+1:=⟨n-1,by omega⟩
 have hp:Yp [.agg x.enc,.agg s.seg,.agg u.seg]=true:=by simp only[Yc,Yg,D.pure,Tx_pure,Seg_pure,Ua]
 unfold trnF
 simp only[Tx.enc,Wnt.seg]at hp ⊢
 have:WO (Yb E (m+1) 226 [.agg [.str x.code,.int .i64 x.kind,.str x.land,.int .i64 x.amount,.int .i64 x.scope,.int .i64 x.transit,.sl 1 (x.free.map Cnd.encT) x.freex],.agg [.str s.car,.int .i64 s.num,.int .i64 s.day,.str s.fr,.str s.to,.int .i64 s.dep,.int .i64 s.arr],.agg [.str u.car,.int .i64 u.num,.int .i64 u.day,.str u.fr,.str u.to,.int .i64 u.dep,.int .i64 u.arr]] []) λr T=>r=.bool (decide (s.to=u.fr) && (decide (u.dep>=s.arr) && decide (IntKind.i64.wrap (u.dep-s.arr)<=x.transit))):=by
  refine Ye Tryz.func226 rfl (by decide) rfl 29 rfl (λa hal ha=>?_)
  obtain⟨h0,h1,h2⟩:=aQ3 ha
  clear ha
  cases e1:decide (s.to=u.fr)
  ·simp only[push_cast,hal,h0,h1,h2,e1,Yo,Tryz.f226,↓WX,simprocAttr,WY]
  cases e2:decide (u.dep>=s.arr)
  ·simp only[push_cast,hal,h0,h1,h2,e1,e2,Yo,Tryz.f226,↓WX,simprocAttr,WY]
  ·simp only[push_cast,hal,h0,h1,h2,e1,e2,Yo,Tryz.f226,↓WX,simprocAttr,WY]
 obtain⟨_,T,ho,rfl⟩:=this
 exact λst S=>Yd rfl hp ho rfl
theorem due27_x (p:Plc) (hpa:p.aps.length<=1048576) (x:Tx) (l:List Wnt) (lx:Bool) (hl:l.length<=1048576) {i:Nat} {s:Wnt} (hs:l[i]?=some s) (hn:1048700<=n):∀st S,Yi E (Yb E n) st S 199 [.agg p.enc,.agg x.enc,.sl 7 (l.map Wnt.seg) lx,.int .i64 i]=some (.int .i64 (dueF p x (if i=0 then none else l[i-1]?) s l[i+1]?),S):=by
 obtain⟨m,rfl⟩:∃m,n=m+1:=⟨n-1,by omega⟩
 have hp:Yp [.agg p.enc,.agg x.enc,.sl 7 (l.map Wnt.seg) lx,.int .i64 i]=true:=by simp only[Yc,Yg,D.pure,Yt,Tx_pure,Segs_pure,Ua]
 have hlt:i<l.length:=(Kr.1 hs).1
 have csc:=scoped27_x (n:=m) p hpa x s (by omega)
 have c1:=λst S=>rCty_c (n:=m) (p:=p) (s:=s.fr) (by omega) (by omega) st S
 have c2:=λst S=>rCty_c (n:=m) (p:=p) (s:=s.to) (by omega) (by omega) st S
 have ctr:=λu v=>transit27_x (n:=m) x u v (by omega)
 unfold dueF
 generalize scpF p x s=bs at*
 generalize ctyS p s.fr=u at*
 generalize ctyS p s.to=v at*
 -- the neighbours
 obtain⟨pv,hpv⟩:∃pv,pv=(if i=0 then none else l[i-1]?):=⟨_,rfl⟩
 obtain⟨nx,hnx⟩:∃nx,nx=l[i+1]? :=⟨_,rfl⟩
 rw[<-hpv,<-hnx]
 obtain⟨b1,hb1⟩:∃b,b=optB (λy=>trnF x y s) pv:=⟨_,rfl⟩
 obtain⟨b2,hb2⟩:∃b,b=optB (λy=>trnF x s y) nx:=⟨_,rfl⟩
 rw[<-hb1,<-hb2]
 simp only[Plc.enc,Tx.enc,Wnt.seg]at hp csc c1 c2 ctr ⊢
 have hge:(0<=(i:Int)+1)=True:=eq_true (by omega)
 have:WO (Yb E (m+1) 199 [.agg [.sl 5 (p.aps.map Apt.enc) p.apsx,.sl 3 (p.dts.map Dst.enc) p.dtsx],.agg [.str x.code,.int .i64 x.kind,.str x.land,.int .i64 x.amount,.int .i64 x.scope,.int .i64 x.transit,.sl 1 (x.free.map Cnd.encT) x.freex],.sl 7 (l.map Wnt.seg) lx,.int .i64 i] []) λr T=>r=.int .i64 ((if bs=false then 0 else if (decide (x.kind=1) && (!decide (u=x.land) || b1))=true then 0 else if (decide (x.kind=2) && (!decide (v=x.land) || b2))=true then 0 else 1:Nat):Int):=by
  obtain⟨P0,hP0⟩:∃P0:List Ob,P0=[Ob.row 2 [[.sl 5 (p.aps.map Apt.enc) p.apsx,.sl 3 (p.dts.map Dst.enc) p.dtsx]],Ob.row 7 [[.str x.code,.int .i64 x.kind,.str x.land,.int .i64 x.amount,.int .i64 x.scope,.int .i64 x.transit,.sl 1 (x.free.map Cnd.encT) x.freex]]]:=⟨_,rfl⟩
  have g0:P0[0]?=some (Ob.row 2 [[.sl 5 (p.aps.map Apt.enc) p.apsx,.sl 3 (p.dts.map Dst.enc) p.dtsx]]):=by rw[hP0];rfl
  have g1:P0[1]?=some (Ob.row 7 [[.str x.code,.int .i64 x.kind,.str x.land,.int .i64 x.amount,.int .i64 x.scope,.int .i64 x.transit,.sl 1 (x.free.map Cnd.encT) x.freex]]):=by rw[hP0];rfl
  refine Ye Tryz.func199 rfl (by decide) rfl 84 rfl (λa hal ha=>?_)
  obtain⟨h0,h1,h2,h3⟩:=aQ4 ha
  clear ha
  refine Ya (λa V=>V=P0/\gQ a 84 (a[5]?=some (.loc 1 0 0)) [(2,.sl 7 (l.map Wnt.seg) lx),(3,.int .i64 i),(4,.loc 0 0 0)]) ?_ ?_
  ·simp only[push_cast,hal,h0,h1,h2,h3,↓WX,simprocAttr]
   rw[hP0]
  rintro a V ⟨rfl,hal,h2,h3,h4,h5⟩
  clear hP0
  cases bs
  ·simp only[if_true]
   simp only[push_cast,hal,h2,h3,h4,h5,g0,g1,hs,csc,Wnt.seg,Tryz.f199,↓WX,simprocAttr,WY]
  simp only[Bool.true_eq_false,if_false]
  refine Ya (λa W=>W=V/\gQ a 84 (a[5]?=some (.loc 1 0 0)) [(2,.sl 7 (l.map Wnt.seg) lx),(3,.int .i64 i),(4,.loc 0 0 0)]) ?_ ?_
  ·simp only[push_cast,hal,h2,h3,h4,h5,g0,g1,hs,csc,Wnt.seg,↓WX,simprocAttr,WY]
  rintro a W ⟨rfl,hal,h2,h3,h4,h5⟩
  obtain⟨q1,hq1⟩:∃q,q=(decide (x.kind=1) && (!decide (u=x.land) || b1)):=⟨_,rfl⟩
  obtain⟨q2,hq2⟩:∃q,q=(decide (x.kind=2) && (!decide (v=x.land) || b2)):=⟨_,rfl⟩
  rw[<-hq1,<-hq2]
  refine Za (λa V=>(V=W/\q1=false)/\gQ a 84 (a[5]?=some (.loc 1 0 0)) [(2,.sl 7 (l.map Wnt.seg) lx),(3,.int .i64 i),(4,.loc 0 0 0)]) ?_ ?_
  ·cases e1:decide (x.kind=1)
   ·rw[e1,Bool.false_and]at hq1
    subst hq1
    simp only[push_cast,hal,h2,h3,h4,h5,g1,e1,↓WX,simprocAttr,WY]
   cases e2:decide (u=x.land)
   ·rw[e1,e2,Bool.true_and,Bool.not_false,Bool.true_or]at hq1
    subst hq1
    simp only[if_true]
    simp only[push_cast,hal,h2,h3,h4,h5,g0,g1,hs,c1,e1,e2,Yo,Wnt.seg,Tryz.f199,↓WX,simprocAttr,WY]
   rw[e1,e2,Bool.true_and,Bool.not_true,Bool.false_or]at hq1
   subst hq1
   rcases i with _ |k
   ·rw[if_pos rfl]at hpv
    subst hpv
    have hb1':q1=false:=hb1
    subst hb1'
    simp only[push_cast,Vn,hal,h2,h3,h4,h5,g0,g1,hs,c1,e1,e2,Yo,Wnt.seg,↓WX,simprocAttr,WY]
   rw[if_neg (by omega),show k+1-1=k by omega]at hpv
   have hkl:k<l.length:=by omega
   obtain⟨y,hy⟩:∃y,l[k]?=some y:=⟨l[k],by simp⟩
   rw[hy]at hpv
   subst hpv
   have hb1':q1=trnF x y s:=hb1
   have ct:=ctr y s
   rw[<-hb1']at ct
   have hw1:IntKind.i64.wrap ((k:Int)+1-1)=k:=by rw[show (k:Int)+1-1=k by omega];exact Yf (by omega) (by omega)
   have hgk:(0<=(k:Int)+1)=True:=eq_true (by omega)
   have hgk':((0:Int)<(k:Int)+1)=True:=eq_true (by omega)
   have htk:((k:Int)+1).toNat=k+1:=by omega
   cases q1
   ·simp(disch:=omega)only[push_cast,Vn,hal,h2,h3,h4,h5,g0,g1,hs,hy,hw1,hgk,hgk',htk,ct,c1,e1,e2,Yo,Wnt.seg,↓WX,simprocAttr,WY]
   ·simp only[if_true]
    simp(disch:=omega)only[push_cast,Vn,hal,h2,h3,h4,h5,g0,g1,hs,hy,hw1,hgk,hgk',htk,ct,c1,e1,e2,Yo,Wnt.seg,Tryz.f199,↓WX,simprocAttr,WY]
  rintro a V ⟨⟨rfl,rfl⟩,hal,h2,h3,h4,h5⟩
  simp only[Ui,if_false]
  refine Za (λa W=>(W=V/\q2=false)/\gQ a 84 (a[5]?=some (.loc 1 0 0)) [(2,.sl 7 (l.map Wnt.seg) lx),(3,.int .i64 i),(4,.loc 0 0 0)]) ?_ ?_
  ·cases e1:decide (x.kind=2)
   ·rw[e1,Bool.false_and]at hq2
    subst hq2
    simp only[push_cast,hal,h2,h3,h4,h5,g1,e1,↓WX,simprocAttr,WY]
   cases e2:decide (v=x.land)
   ·rw[e1,e2,Bool.true_and,Bool.not_false,Bool.true_or]at hq2
    subst hq2
    simp only[if_true]
    simp only[push_cast,hal,h2,h3,h4,h5,g0,g1,hs,c2,e1,e2,Yo,Wnt.seg,Tryz.f199,↓WX,simprocAttr,WY]
   rw[e1,e2,Bool.true_and,Bool.not_true,Bool.false_or]at hq2
   subst hq2
   by_cases hi1:i+1<l.length
   ·have hi1c:((i:Int)+1<l.length)=True:=eq_true (by omega)
    obtain⟨y,hy⟩:∃y,l[i+1]?=some y:=⟨l[i+1],by simp⟩
    rw[hy]at hnx
    subst hnx
    have hb2':q2=trnF x s y:=hb2
    have ct:=ctr s y
    rw[<-hb2']at ct
    have htk:((i:Int)+1).toNat=i+1:=by omega
    cases q2
    ·simp(maxSteps:=1000000)(disch:=omega)only[push_cast,hal,h2,h3,h4,h5,g0,g1,hs,hi1c,hy,hge,htk,ct,c2,e1,e2,Yo,Wnt.seg,Bool.not_true,Yf,false_and,or_false,true_and,↓WX,simprocAttr]
    ·simp only[if_true]
     simp(maxSteps:=1000000)(disch:=omega)only[push_cast,hal,h2,h3,h4,h5,g0,g1,hs,hi1c,hy,hge,htk,ct,c2,e1,e2,Yo,Wnt.seg,Bool.not_true,Yf,false_and,false_or,true_and,Tryz.f199,↓WX,simprocAttr]
   ·have hi1c:((i:Int)+1<l.length)=False:=eq_false (by omega)
    rw[List.getElem?_eq_none (by omega)]at hnx
    subst hnx
    have hb2':q2=false:=hb2
    subst hb2'
    simp(maxSteps:=1000000)(disch:=omega)only[push_cast,hal,h2,h3,h4,h5,g0,g1,hs,hi1c,c2,e1,e2,Yo,Wnt.seg,Bool.not_true,Yf,false_and,or_false,true_and,↓WX,simprocAttr]
  rintro a W ⟨⟨rfl,rfl⟩,hal,h2,h3,h4,h5⟩
  simp only[Ui,if_false]
  simp only[push_cast,hal,Tryz.f199,↓WX,simprocAttr]
 obtain⟨_,T,ho,rfl⟩:=this
 exact λst S=>Yd rfl hp ho rfl
end
section
variable {n : Nat}
theorem PRule_x (fe oe te:List (List D)) (fx ox tx:Bool) (l:List Rul) (lx:Bool) (hf:Zc fe=true) (hr:Zc oe=true) (ht:Zc te=true) (hl:l.length<=1048576) (hn:1048580<=n) (k:Int):∀st S,Yi E (Yb E n) st S 62 [.agg [.sl 9 fe fx,.sl 15 (l.map Rul.enc) lx,.sl 3 oe ox,.sl 7 te tx],.int .i64 k]=some (.tup [rulD (l.find? λr=>decide (r.num=k)),.bool (l.find? λr=>decide (r.num=k)).isSome],S):=by
 obtain⟨m,rfl⟩:∃m,n=m+1:=⟨n-1,by omega⟩
 have:WO (Yb E (m+1) 62 [.agg [.sl 9 fe fx,.sl 15 (l.map Rul.enc) lx,.sl 3 oe ox,.sl 7 te tx],.int .i64 k] []) λr T=>r=.tup [rulD (l.find? λr=>decide (r.num=k)),.bool (l.find? λr=>decide (r.num=k)).isSome]:=by
  refine Ye Tryz.func62 rfl (by decide) rfl 22 rfl (λa hal ha=>?_)
  obtain⟨h0,h1⟩:=aQ2 ha
  clear ha
  obtain⟨q,hq⟩:∃q,q=l.find? λr=>decide (r.num=k):=⟨_,rfl⟩
  rw[<-hq]
  refine Ya (λa V=>(∃V0:List Ob,V=V0/\V0[0]?=some (Ob.row 4 [[.sl 9 fe fx,.sl 15 (l.map Rul.enc) lx,.sl 3 oe ox,.sl 7 te tx]])/\V0[1]?=some (Ob.row 15 [[.int .i64 0,.int .i64 0,.nils,.int .i64 0,.int .i64 0,.int .i64 0,.int .i64 0,.int .i64 0,.nils,.nils,.int .i64 0,.int .i64 0,.int .i64 0,.int .i64 0,.nils]]))/\gQ a 22 (a[4]?=some (.loc 1 0 0)) [(1,.int .i64 k),(2,.loc 0 0 0)]) ?_ ?_
  ·simp only[push_cast,hal,h0,h1,↓WX,simprocAttr]
   exact⟨_,rfl,rfl,rfl⟩
  rintro a V ⟨⟨V0,rfl,g0,g1⟩,hal,h1,h2,h4⟩
  refine Za (λa T=>(q=none/\∃J,T=V++J)/\a.length=22/\a[4]?=some (.loc 1 0 0)) ?_ ?_
  ·simp only[push_cast,hal,h2,g0,↓WX,simprocAttr]
   refine Yk (λi a T=>((∃J,T=V++J)/\q=(l.drop i).find? λr=>decide (r.num=k))/\a.length=22/\a[1]?=some (.int .i64 k)/\a[4]?=some (.loc 1 0 0)/\a[9]?=some (.sl 15 (l.map Rul.enc) lx)/\a[10]?=some (.int .i64 l.length)/\a[11]?=some (.int .i64 i)) l.length ?_ (by omega) ?_
   ·simp only[push_cast,hal,h1,h4,simprocAttr,WY]
    exact⟨⟨[],(Ur _).symm⟩,hq⟩
   clear hq
   rintro i a T hi ⟨⟨⟨J,rfl⟩,e⟩,hal,h1,h4,h9,h10,h11⟩
   have g1':(V++J)[1]?=some (Ob.row 15 [[.int .i64 0,.int .i64 0,.nils,.int .i64 0,.int .i64 0,.int .i64 0,.int .i64 0,.int .i64 0,.nils,.nils,.int .i64 0,.int .i64 0,.int .i64 0,.int .i64 0,.nils]]):=Ym g1
   rcases Kw hi with hlt |hie
   case inr=>
    rw[hie,Vj,List.find?_nil]at e
    subst e
    subst hie
    simp only[push_cast,hal,h4,h10,h11,↓WX,simprocAttr,WY]
    exact⟨_,rfl⟩
   obtain⟨x,hx⟩:∃x,l[i]?=some x:=⟨l[i],by simp⟩
   have hltc:(i:Int)<l.length:=by omega
   obtain⟨w,hw⟩:∃w,x.when=w:=⟨_,rfl⟩
   have hxe:Rul.enc x=.int .i64 x.num::(w.enc++[.sl 1 (x.comb.map encZ) x.combx,.int .i64 x.mins,.int .i64 x.maxs,.int .i64 x.chg,.int .i64 x.ref,.sl 2 (x.pcs.map encPc) x.pcx]):=by rw[<-hw];rfl
   cases w with |mk k' l' lx' u' v' pf' pt' pd' t' tx'=>?_
   simp only[Cnd.enc,Uv,Vr]at hxe
   rw[Yu hx,List.find?_cons]at e
   refine Ya (λa W=>W=V++J/\gQ a 22 (a[12]?=some (.bool true)) [(1,.int .i64 k),(4,.loc 1 0 0),(9,.sl 15 (l.map Rul.enc) lx),(10,.int .i64 l.length),(11,.int .i64 i)]) ?_ ?_
   ·simp only[push_cast,hal,h1,h4,h9,h10,h11,hltc,↓WX,simprocAttr]
   rintro a W ⟨rfl,hal,h1,h4,h9,h10,h11,h12⟩
   refine Ya (λa W=>W=V++J/\gQ a 22 (a[11]?=some (.int .i64 i)) [(1,.int .i64 k),(4,.loc 1 0 0),(9,.sl 15 (l.map Rul.enc) lx),(10,.int .i64 l.length)]) ?_ ?_
   ·simp only[push_cast,hal,h1,h4,h9,h10,h11,h12,↓WX]
   rintro a W ⟨rfl,hal,h1,h4,h9,h10,h11⟩
   rw[Zx,Yx]
   refine Ya (λa W=>W=(V++J)++[Ob.row 15 [x.enc]]/\gQ a 22 (a[11]?=some (.int .i64 i)) [(1,.int .i64 k),(4,.loc 1 0 0),(7,.loc (V++J).length 0 0),(9,.sl 15 (l.map Rul.enc) lx),(10,.int .i64 l.length)]) ?_ ?_
   ·simp only[push_cast,hal,h1,h4,h9,h10,h11,hx,hxe,Yl,Yq,↓WX,simprocAttr]
   rintro a W ⟨hW,hal,h1,h4,h7,h9,h10,h11⟩
   have gx:W[(V++J).length]?=some (Ob.row 15 [x.enc]):=by rw[hW];exact Yl
   have gz:=Ym (J:=[Ob.row 15 [x.enc]]) g1'
   rw[<-hW]at gz
   have hWl:1<W.length:=(Kr.1 gz).1
   have hne:((V++J).length=1)=False:=eq_false (λh=>by have:=(Kr.1 g1').1;omega)
   have hWJ:∃J,W=V++J:=⟨J++[Ob.row 15 [x.enc]],by rw[hW,Vg]⟩
   generalize (V++J).length=kx at*
   clear hW g1'
   rw[hxe]at gx
   by_cases c:x.num=k
   ·have d1:decide (x.num=k)=true:=Ue c
    rw[d1]at e
    subst e
    simp only[push_cast,hal,h1,h4,h7,gx,gz,hWl,d1,hxe,rulD,Option.isSome_some,Tryz.f62,↓WX,simprocAttr,WY]
   ·have d1:decide (x.num=k)=false:=Ud c
    rw[d1]at e
    simp(disch:=omega)only[push_cast,hal,h1,h4,h7,h9,h10,h11,gx,hlt,d1,Yf,↓WX,simprocAttr,WY]
    exact⟨hWJ,e⟩
  rintro a T ⟨⟨rfl,J,rfl⟩,hal,h4⟩
  have g1':(V++J)[1]?=some (Ob.row 15 [[.int .i64 0,.int .i64 0,.nils,.int .i64 0,.int .i64 0,.int .i64 0,.int .i64 0,.int .i64 0,.nils,.nils,.int .i64 0,.int .i64 0,.int .i64 0,.int .i64 0,.nils]]):=Ym g1
  have hWl:1<(V++J).length:=(Kr.1 g1').1
  generalize V++J=W at*
  simp only[push_cast,hal,h4,g1',hWl,rulD,Option.isSome_none,Tryz.f62,↓WX,simprocAttr]
 obtain⟨_,T,ho,rfl⟩:=this
 exact λst S=>Yd rfl (by simp only[Yc,Yg,D.pure,hf,hr,ht,Ruls_pure,Bool.and_self]) ho (Yy (by simp only[D.pure,Yc,Yg,Jl,Ua]))
theorem PRouting_x (fe re te:List (List D)) (fx rx tx:Bool) (l:List Rou) (lx:Bool) (hf:Zc fe=true) (hr:Zc re=true) (ht:Zc te=true) (hl:l.length<=1048576) (hn:1048580<=n) (k:Int):∀st S,Yi E (Yb E n) st S 66 [.agg [.sl 9 fe fx,.sl 15 re rx,.sl 3 (l.map Rou.enc) lx,.sl 7 te tx],.int .i64 k]=some (.tup [rouD (l.find? λr=>decide (r.num=k)),.bool (l.find? λr=>decide (r.num=k)).isSome],S):=by
 obtain⟨m,rfl⟩:∃m,n=m+1:=⟨n-1,by omega⟩
 have:WO (Yb E (m+1) 66 [.agg [.sl 9 fe fx,.sl 15 re rx,.sl 3 (l.map Rou.enc) lx,.sl 7 te tx],.int .i64 k] []) λr T=>r=.tup [rouD (l.find? λr=>decide (r.num=k)),.bool (l.find? λr=>decide (r.num=k)).isSome]:=by
  refine Ye Tryz.func66 rfl (by decide) rfl 22 rfl (λa hal ha=>?_)
  obtain⟨h0,h1⟩:=aQ2 ha
  clear ha
  obtain⟨q,hq⟩:∃q,q=l.find? λr=>decide (r.num=k):=⟨_,rfl⟩
  rw[<-hq]
  refine Ya (λa V=>(∃V0:List Ob,V=V0/\V0[0]?=some (Ob.row 4 [[.sl 9 fe fx,.sl 15 re rx,.sl 3 (l.map Rou.enc) lx,.sl 7 te tx]])/\V0[1]?=some (Ob.row 3 [[.int .i64 0,.nils,.int .i64 0]]))/\gQ a 22 (a[4]?=some (.loc 1 0 0)) [(1,.int .i64 k),(2,.loc 0 0 0)]) ?_ ?_
  ·simp only[push_cast,hal,h0,h1,↓WX,simprocAttr]
   exact⟨_,rfl,rfl,rfl⟩
  rintro a V ⟨⟨V0,rfl,g0,g1⟩,hal,h1,h2,h4⟩
  refine Za (λa T=>(q=none/\∃J,T=V++J)/\a.length=22/\a[4]?=some (.loc 1 0 0)) ?_ ?_
  ·simp only[push_cast,hal,h2,g0,↓WX,simprocAttr]
   refine Yk (λi a T=>((∃J,T=V++J)/\q=(l.drop i).find? λr=>decide (r.num=k))/\a.length=22/\a[1]?=some (.int .i64 k)/\a[4]?=some (.loc 1 0 0)/\a[9]?=some (.sl 3 (l.map Rou.enc) lx)/\a[10]?=some (.int .i64 l.length)/\a[11]?=some (.int .i64 i)) l.length ?_ (by omega) ?_
   ·simp only[push_cast,hal,h1,h4,simprocAttr,WY]
    exact⟨⟨[],(Ur _).symm⟩,hq⟩
   clear hq
   rintro i a T hi ⟨⟨⟨J,rfl⟩,e⟩,hal,h1,h4,h9,h10,h11⟩
   have g1':(V++J)[1]?=some (Ob.row 3 [[.int .i64 0,.nils,.int .i64 0]]):=Ym g1
   rcases Kw hi with hlt |hie
   case inr=>
    rw[hie,Vj,List.find?_nil]at e
    subst e
    subst hie
    simp only[push_cast,hal,h4,h10,h11,↓WX,simprocAttr,WY]
    exact⟨_,rfl⟩
   obtain⟨x,hx⟩:∃x,l[i]?=some x:=⟨l[i],by simp⟩
   have hltc:(i:Int)<l.length:=by omega
   have hxe:Rou.enc x=[.int .i64 x.num,.sl 2 (x.links.map encLk) x.linksx,.int .i64 x.miles]:=rfl
   rw[Yu hx,List.find?_cons]at e
   refine Ya (λa W=>W=V++J/\gQ a 22 (a[12]?=some (.bool true)) [(1,.int .i64 k),(4,.loc 1 0 0),(9,.sl 3 (l.map Rou.enc) lx),(10,.int .i64 l.length),(11,.int .i64 i)]) ?_ ?_
   ·simp only[push_cast,hal,h1,h4,h9,h10,h11,hltc,↓WX,simprocAttr]
   rintro a W ⟨rfl,hal,h1,h4,h9,h10,h11,h12⟩
   refine Ya (λa W=>W=V++J/\gQ a 22 (a[11]?=some (.int .i64 i)) [(1,.int .i64 k),(4,.loc 1 0 0),(9,.sl 3 (l.map Rou.enc) lx),(10,.int .i64 l.length)]) ?_ ?_
   ·simp only[push_cast,hal,h1,h4,h9,h10,h11,h12,↓WX]
   rintro a W ⟨rfl,hal,h1,h4,h9,h10,h11⟩
   rw[Zx,Yx]
   refine Ya (λa W=>W=(V++J)++[Ob.row 3 [x.enc]]/\gQ a 22 (a[11]?=some (.int .i64 i)) [(1,.int .i64 k),(4,.loc 1 0 0),(7,.loc (V++J).length 0 0),(9,.sl 3 (l.map Rou.enc) lx),(10,.int .i64 l.length)]) ?_ ?_
   ·simp only[push_cast,hal,h1,h4,h9,h10,h11,hx,hxe,Yl,Yq,↓WX,simprocAttr]
   rintro a W ⟨hW,hal,h1,h4,h7,h9,h10,h11⟩
   have gx:W[(V++J).length]?=some (Ob.row 3 [x.enc]):=by rw[hW];exact Yl
   have gz:=Ym (J:=[Ob.row 3 [x.enc]]) g1'
   rw[<-hW]at gz
   have hWl:1<W.length:=(Kr.1 gz).1
   have hne:((V++J).length=1)=False:=eq_false (λh=>by have:=(Kr.1 g1').1;omega)
   have hWJ:∃J,W=V++J:=⟨J++[Ob.row 3 [x.enc]],by rw[hW,Vg]⟩
   generalize (V++J).length=kx at*
   clear hW g1'
   rw[hxe]at gx
   by_cases c:x.num=k
   ·have d1:decide (x.num=k)=true:=Ue c
    rw[d1]at e
    subst e
    simp only[push_cast,hal,h1,h4,h7,gx,gz,hWl,d1,hxe,rouD,Option.isSome_some,Tryz.f66,↓WX,simprocAttr,WY]
   ·have d1:decide (x.num=k)=false:=Ud c
    rw[d1]at e
    simp(disch:=omega)only[push_cast,hal,h1,h4,h7,h9,h10,h11,gx,hlt,d1,Yf,↓WX,simprocAttr,WY]
    exact⟨hWJ,e⟩
  rintro a T ⟨⟨rfl,J,rfl⟩,hal,h4⟩
  have g1':(V++J)[1]?=some (Ob.row 3 [[.int .i64 0,.nils,.int .i64 0]]):=Ym g1
  have hWl:1<(V++J).length:=(Kr.1 g1').1
  generalize V++J=W at*
  simp only[push_cast,hal,h4,g1',hWl,rouD,Option.isSome_none,Tryz.f66,↓WX,simprocAttr]
 obtain⟨_,T,ho,rfl⟩:=this
 exact λst S=>Yd rfl (by simp only[Yc,Yg,D.pure,hf,hr,ht,Jz,Bool.and_self]) ho (Yy (by simp only[D.pure,Yc,Yg,rouD_pure,Ua]))
theorem PCty_c {p:Plc} {s:ByteArray} (hn:p.aps.length+2<n) (hz:p.aps.length<=9223372036854775800) (st:Bool) (S:List Ob):Yi E (Yb E n) st S 184 [.agg p.enc,.str s]=some (.str (ctyS p s),S):=by
 obtain⟨m,rfl⟩:∃m,n=m+1:=⟨n-1,by omega⟩
 have c1:=PFind_c (n:=m) (p:=p) (s:=s) (by omega) hz
 have c2:=town_c (n:=m) (p:=p) (s:=s) (by omega) hz
 have:WO (Yb E (m+1) 184 [.agg p.enc,.str s] []) λd _=>d=.str (ctyS p s):=by
  refine Ye Tryz.func184 rfl (by decide) rfl 26 rfl (λa hal ha=>?_)
  obtain⟨h0,h1⟩:=aQ2 ha
  clear ha
  unfold ctyS
  simp only[Plc.enc]at h0 c1 c2
  rcases ha:(p.aps.find? λa=>a.code.toList == s.toList) with _ |a1
  ·rw[ha]at c1 ⊢
   simp only[Xy,zeroApt]at c1
   rcases hb:(p.aps.find? λa=>a.city.toList == s.toList) with _ |a2
   ·rw[hb]at c2 ⊢
    simp only[Xy,zeroApt]at c2
    simp only[push_cast,hal,h0,h1,c1,c2,Tryz.f184,↓WX,simprocAttr]
   ·rw[hb]at c2 ⊢
    simp only[Xy,Apt.enc]at c2
    simp only[push_cast,hal,h0,h1,c1,c2,Tryz.f184,↓WX,simprocAttr]
  ·rw[ha]at c1 ⊢
   simp only[Xy,Apt.enc]at c1
   simp only[push_cast,hal,h0,h1,c1,Tryz.f184,↓WX,simprocAttr]
 obtain⟨d,T,ho,rfl⟩:=this
 exact Yd rfl (by simp[Yc,Yg,D.pure,Yt]) ho rfl
theorem Psplit_x (hn:1<=n) (x:Int):∀st S,Yi E (Yb E n) st S 121 [.int .i64 x]=some (.tup [.int .i64 (dayF x),.int .i64 (mntF x)],S):=by
 obtain⟨m,rfl⟩:∃m,n=m+1:=⟨n-1,by omega⟩
 have:WO (Yb E (m+1) 121 [.int .i64 x] []) λr T=>r=.tup [.int .i64 (dayF x),.int .i64 (mntF x)]:=by
  unfold dayF mntF
  refine Ye Tryz.func121 rfl (by decide) rfl 18 rfl (λa hal ha=>?_)
  have h0:=aQ1 ha
  clear ha
  by_cases c1:x.tmod 1440<0
  ·simp only[push_cast,hal,h0,c1,Tryz.f121,↓WX,simprocAttr]
  ·simp only[push_cast,hal,h0,c1,Tryz.f121,↓WX,simprocAttr]
 obtain⟨_,T,ho,rfl⟩:=this
 exact λst S=>Yd rfl rfl ho rfl
theorem Pfare_x (t:Trf) (k:Int) (l:List Wnt) (lx:Bool) (hn:1<=n):∀st S,Yi E (Yb E n) st S 57 [.agg t.enc,.int .i64 k,.sl 8 (l.map Wnt.enc) lx]=some (.tup [.agg (if l.length=0∨k<0∨(t.fares.length:Int)<=k then zeFar.enc else ((t.fares[k.toNat]?).getD zeFar).enc),.bool (!decide (l.length=0∨k<0∨(t.fares.length:Int)<=k))],S):=by
 obtain⟨m,rfl⟩:∃m,n=m+1:=⟨n-1,by omega⟩
 have hp:Yp [.agg t.enc,.int .i64 k,.sl 8 (l.map Wnt.enc) lx]=true:=by simp only[Yc,Yg,D.pure,Ja,Jd,Ua]
 obtain⟨f,hf⟩:∃f,f=(t.fares[k.toNat]?).getD zeFar:=⟨_,rfl⟩
 rw[<-hf]
 simp only[Trf.enc]at hp ⊢
 have:WO (Yb E (m+1) 57 [.agg [.sl 9 (t.fares.map Far.enc) t.fx,.sl 15 (t.rules.map Rul.enc) t.rx,.sl 3 (t.rous.map Rou.enc) t.ox,.sl 7 (t.taxes.map Tx.enc) t.tx],.int .i64 k,.sl 8 (l.map Wnt.enc) lx] []) λr T=>r=.tup [.agg (if l.length=0∨k<0∨(t.fares.length:Int)<=k then zeFar.enc else f.enc),.bool (!decide (l.length=0∨k<0∨(t.fares.length:Int)<=k))]:=by
  refine Ye Tryz.func57 rfl (by decide) rfl 28 rfl (λa hal ha=>?_)
  obtain⟨h0,h1,h2⟩:=aQ3 ha
  clear ha
  by_cases c1:l.length=0
  ·have d1:decide ((l.length:Int)=0)=true:=Ue (by omega)
   rw[if_pos (.inl c1),Ue (.inl c1)]
   simp only[push_cast,hal,h0,h2,d1,zeFar,Far.enc,Tryz.f57,↓WX,simprocAttr,WY]
  have d1:decide ((l.length:Int)=0)=false:=Ud (by omega)
  by_cases c2:k<0
  ·rw[if_pos (.inr (.inl c2)),Ue (.inr (.inl c2))]
   simp only[push_cast,hal,h0,h1,h2,d1,c2,zeFar,Far.enc,Tryz.f57,↓WX,simprocAttr,WY]
  by_cases c3:(t.fares.length:Int)<=k
  ·rw[if_pos (.inr (.inr c3)),Ue (.inr (.inr c3))]
   simp only[push_cast,hal,h0,h1,h2,d1,c2,c3,zeFar,Far.enc,Tryz.f57,↓WX,simprocAttr,WY]
  have hno:¬(l.length=0∨k<0∨(t.fares.length:Int)<=k):=λh=>h.elim c1 (λh=>h.elim c2 c3)
  rw[if_neg hno,Ud hno]
  have hge:(0<=k)=True:=eq_true (by omega)
  have hxl:k.toNat<t.fares.length:=by omega
  rw[Uh hxl,Option.getD_some]at hf
  have hfx:t.fares[k.toNat]?=some f:=by rw[Uh hxl,hf]
  simp only[push_cast,hal,h0,h1,h2,d1,c2,c3,hge,hfx,Far.enc,Tryz.f57,↓WX,simprocAttr,WY]
 obtain⟨_,T,ho,rfl⟩:=this
 exact λst S=>Yd rfl hp ho (Yy (by simp only[D.pure,Yc,Yg,Ua];split <;> exact Far_pure _))
end
end Go.Proofs.YtaklebjoenophaaGreat.Dm
