/-
  The reference's check of taxes: some list.
  The reference's check of a routing: some list.
-/
import Derived.Test.YtaklebjoenophaaGreatTv
set_option maxHeartbeats 64000000
set_option maxRecDepth 100000
set_option linter.unusedSimpArgs false
set_option linter.unusedVariables false
namespace Go.Proofs.YtaklebjoenophaaGreat.Dm
open Go Gw
theorem not_fault7 {es:List (List D)}:¬FaultOb (.row 7 es):=by
 rintro⟨fs,e⟩
 injection e with e
 cases e
structure TxB (x:Tx):Prop where
 code:x.code.size<=1048576
 land:x.land.size<=1048576
 frs:∀s∈x.free,s.size<=1048576
 frl:x.free.length<=1048576
section
variable {n : Nat}
theorem Check27_d {l:List Tx} {lx:Bool} (hl:l.length<=1048576) (hz:∀x∈l,TxB x) (hn:1048700<=n):
  WO (Yb E (n+1) 22 [.sl 7 (l.map Tx.enc) lx] []) λd T=>∃fs,GL 2 encF T d fs/\fs.length<=3*l.length/\SZ (∀x∈l,TxG x) fs 30:=by
 obtain⟨P,hP0,hPs,hPl⟩:=takeP l TxG
 refine Ye Tryz.func22 rfl (by decide) rfl 78 rfl (λa hal ha=>?_)
 have h0:=aQ1 ha
 clear ha
 simp only[push_cast,↓WX,simprocAttr]
 refine Yk (λi a T=>FSP (P i) T a[3]? (3*i) 30/\a.length=78/\a[0]?=some (.sl 7 (l.map Tx.enc) lx)/\a[4]?=some (.int .i64 i)) l.length ?_ (by omega) ?_
 ·simp only[push_cast,hal,h0,FSP,simprocAttr,WY]
  exact⟨_,_,rfl,GL.nil,Vt _,SZ.nil hP0⟩
 rintro i a T hi ⟨⟨d,fs,h3,hg,hfl,hfz⟩,hal,h0,h4⟩
 rcases Kw hi with hlt |rfl
 case inr=>
  simp only[push_cast,hal,h0,h3,h4,Tryz.f22,↓WX,simprocAttr,WY]
  exact⟨fs,hg,hfl,hfz.mono hPl⟩
 obtain⟨x,hx⟩:∃x,l[i]?=some x:=⟨l[i],by simp⟩
 have hxb:=hz x (Kx hx)
 have hltc:(i:Int)<l.length:=by omega
 obtain⟨q,hq,cq⟩:=Wb.rdecW (n:=n) (i:=i) (by omega) (by omega)
 have hsz:taxT.size=4:=rfl
 have mq:=mx_of (a:=taxT) (b:=q) (by omega)
 have hat:(taxT++q).size<=30:=by rw[ba_len];omega
 unfold taxT at mq
 obtain⟨bn,cn⟩:=named27_c (n:=n) x hxb.code hxb.land hxb.frs hxb.frl (by omega)
 obtain⟨vm,hvm,cm⟩:=most27_c (n:=n) (by omega) x.kind
 have hxe:x.enc=[.str x.code,.int .i64 x.kind,.str x.land,.int .i64 x.amount,.int .i64 x.scope,.int .i64 x.transit,.sl 1 (x.free.map Cnd.encT) x.freex]:=rfl
 rw[hxe]at cn
 obtain⟨S0,hS0⟩:∃S0,S0=T++[Ob.row 7 [[.str x.code,.int .i64 x.kind,.str x.land,.int .i64 x.amount,.int .i64 x.scope,.int .i64 x.transit,.sl 1 (x.free.map Cnd.encT) x.freex]]]:=⟨_,rfl⟩
 have g0:S0[T.length]?=some (.row 7 [[.str x.code,.int .i64 x.kind,.str x.land,.int .i64 x.amount,.int .i64 x.scope,.int .i64 x.transit,.sl 1 (x.free.map Cnd.encT) x.freex]]):=by rw[hS0];exact Yl
 have hg0:GL 2 encF S0 d fs:=by rw[hS0];exact hg.push _
 refine Ya (λa V=>V=T/\gQ a 78 (a[4]?=some (.int .i64 i)) [(0,.sl 7 (l.map Tx.enc) lx),(3,d)]) ?_ ?_
 ·simp only[push_cast,hal,h0,h3,h4,hltc,↓WX,simprocAttr]
 rintro a V ⟨rfl,hal,h0,h3,h4⟩
 rw[Zx,Yx]
 refine Ya (λa W=>W=S0/\gQ a 78 (a[6]?=some (.str (taxT++q))) [(0,.sl 7 (l.map Tx.enc) lx),(3,d),(4,.int .i64 i),(5,.loc V.length 0 0)]) ?_ ?_
 ·unfold taxT
  simp only[push_cast,Vn,hal,h0,h3,h4,hx,cq,mq,Yq,Yl,Tx.enc,↓WX,simprocAttr]
  exact hS0.symm
 rintro a W ⟨rfl,hal,h0,h3,h4,h5,h6⟩
 generalize taxT++q=at0 at*
 refine Ya (λa V'=>(KeepF W V'/\FSP (P i) V' a[3]? (3*i+1) 30)/\gQ a 78 (a[6]?=some (.str at0)) [(0,.sl 7 (l.map Tx.enc) lx),(4,.int .i64 i),(5,.loc V.length 0 0)]) ?_ ?_
 ·obtain⟨d1,T1,fs1,p1,q1,g1,l1,z1,k1⟩:=app_sP hg0 (by omega) hfz (!bn) 5 at0 hat
  cases bn
  ·replace p1:=(p1 rfl).1
   simp only[push_cast,hal,h0,h3,h4,h5,h6,g0,cn,p1,dUn,FSP,↓WX,simprocAttr,WY]
   exact⟨k1,_,_,rfl,g1,by omega,z1⟩
  ·simp only[push_cast,hal,h0,h3,h4,h5,h6,g0,cn,dUn,FSP,↓WX,simprocAttr,WY]
   exact⟨KeepF.refl,_,_,rfl,hg0,by omega,hfz⟩
 rintro a V1 ⟨⟨k1,d1,fs1,h3,g1,l1,z1⟩,hal,h0,h4,h5,h6⟩
 have v1:=k1 _ _ not_fault7 g0
 obtain⟨K,hK⟩:∃K:Prop,K↔(1<=x.kind/\x.kind<=4):=⟨_,Iff.rfl⟩
 refine Ya (λa V'=>(KeepF V1 V'/\FSP (P i/\K) V' a[3]? (3*i+2) 30)/\gQ a 78 (a[6]?=some (.str at0)) [(0,.sl 7 (l.map Tx.enc) lx),(4,.int .i64 i),(5,.loc V.length 0 0)]) ?_ ?_
 ·obtain⟨d2,T2,fs2,p2,q2,g2,l2,z2,k2⟩:=app_sP g1 (by omega) z1 true 8 at0 hat
  have w2:=(p2 rfl).2
  replace p2:=(p2 rfl).1
  by_cases c1:x.kind<1
  ·simp only[push_cast,hal,h0,h3,h4,h5,h6,v1,c1,p2,FSP,↓WX,simprocAttr]
   exact⟨k2,_,_,rfl,g2,by omega,w2.any⟩
  by_cases c2:4<x.kind
  ·simp only[push_cast,Vn,hal,h0,h3,h4,h5,h6,v1,c1,c2,p2,FSP,↓WX,simprocAttr]
   exact⟨k2,_,_,rfl,g2,by omega,w2.any⟩
  simp only[push_cast,Vn,hal,h0,h3,h4,h5,h6,v1,c1,c2,FSP,↓WX,simprocAttr]
  exact⟨KeepF.refl,_,_,rfl,g1,by omega,z1.mono λe=>⟨e,hK.2 ⟨by omega,by omega⟩⟩⟩
 rintro a V2 ⟨⟨k2,d2,fs2,h3,g2,l2,z2⟩,hal,h0,h4,h5,h6⟩
 have v2:=k2 _ _ not_fault7 v1
 obtain⟨d3,T3,fs3,p3,q3,g3,l3,z3,k3⟩:=app_sP g2 (by omega) z2 true 2 at0 hat
 have w3:=(p3 rfl).2
 replace p3:=(p3 rfl).1
 by_cases c1:x.amount<0
 ·simp(disch:=omega)only[push_cast,hal,h0,h3,h4,h5,h6,v2,c1,p3,FSP,Yf,↓WX,simprocAttr,WY]
  exact⟨hlt,_,_,rfl,g3,by omega,w3.any⟩
 by_cases c2:vm<x.amount
 ·simp(disch:=omega)only[push_cast,Vn,hal,h0,h3,h4,h5,h6,v2,c1,c2,cm,p3,FSP,Yf,↓WX,simprocAttr,WY]
  exact⟨hlt,_,_,rfl,g3,by omega,w3.any⟩
 by_cases c3:x.scope<0
 ·simp(disch:=omega)only[push_cast,Vn,hal,h0,h3,h4,h5,h6,v2,c1,c2,c3,cm,p3,FSP,Yf,↓WX,simprocAttr,WY]
  exact⟨hlt,_,_,rfl,g3,by omega,w3.any⟩
 by_cases c4:2<x.scope
 ·simp(disch:=omega)only[push_cast,Vn,hal,h0,h3,h4,h5,h6,v2,c1,c2,c3,c4,cm,p3,FSP,Yf,↓WX,simprocAttr,WY]
  exact⟨hlt,_,_,rfl,g3,by omega,w3.any⟩
 by_cases c5:x.transit<0
 ·simp(disch:=omega)only[push_cast,Vn,hal,h0,h3,h4,h5,h6,v2,c1,c2,c3,c4,c5,cm,p3,FSP,Yf,↓WX,simprocAttr,WY]
  exact⟨hlt,_,_,rfl,g3,by omega,w3.any⟩
 by_cases c6:100000<x.transit
 ·simp(disch:=omega)only[push_cast,Vn,hal,h0,h3,h4,h5,h6,v2,c1,c2,c3,c4,c5,c6,cm,p3,FSP,Yf,↓WX,simprocAttr,WY]
  exact⟨hlt,_,_,rfl,g3,by omega,w3.any⟩
 simp(disch:=omega)only[push_cast,Vn,hal,h0,h3,h4,h5,v2,c1,c2,c3,c4,c5,c6,cm,FSP,Yf,↓WX,simprocAttr,WY]
 exact⟨hlt,_,_,rfl,g2,by omega,z2.mono λe=>hPs i x hx e.1 ⟨hK.1 e.2,⟨by omega,by omega⟩,⟨by omega,by have:=hvm.1;omega⟩,λh=>by have:=hvm.2 h;omega⟩⟩
theorem Check27_c {l:List Tx} {lx:Bool} (hl:l.length<=1048576) (hz:∀x∈l,TxB x) (hn:1048701<=n):∃d,FRP (∀x∈l,TxG x) d (3*l.length) 30/\∀st S,Yi E (Yb E n) st S 22 [.sl 7 (l.map Tx.enc) lx]=some (d,S):=by
 obtain⟨m,rfl⟩:∃m,n=m+1:=⟨n-1,by omega⟩
 obtain⟨d,T,ho,fs,hg,h1,h2⟩:=Check27_d (n:=m) (lx:=lx) hl hz (by omega)
 obtain⟨d',f,hf⟩:=GL_fz hg
 exact⟨d',⟨fs,hf,h1,h2⟩,λst S=>Yd rfl (by simp[Yc,Yg,D.pure,Jq]) ho f⟩
end
theorem not_fault3 {es:List (List D)}:¬FaultOb (.row 3 es):=by
 rintro⟨fs,e⟩
 injection e with e
 cases e
section
variable {n : Nat}
theorem Check22_d {nu mi:Int} {l:List (ByteArray×ByteArray)} {lx:Bool} (hl:l.length<=1048576) (hz:∀x∈l,x.1.size<=1048576/\x.2.size<=1048576) (hn:1048700<=n):
  WO (Yb E (n+1) 47 [.agg [.int .i64 nu,.sl 2 (l.map encLk) lx,.int .i64 mi]] []) λd T=>∃fs,GL 2 encF T d fs/\fs.length<=400/\∀f∈fs,f.2.size<=30:=by
 refine Ye Tryz.func47 rfl (by decide) rfl 101 rfl (λa hal ha=>?_)
 have h0:=aQ1 ha
 clear ha
 have hnf:¬FaultOb (.row 3 [[.int .i64 nu,.sl 2 (l.map encLk) lx,.int .i64 mi]]):=not_fault3
 obtain⟨S0,hS0⟩:∃S0,S0=[Ob.row 3 [[.int .i64 nu,.sl 2 (l.map encLk) lx,.int .i64 mi]]]:=⟨_,rfl⟩
 have g0:S0[0]?=some (.row 3 [[.int .i64 nu,.sl 2 (l.map encLk) lx,.int .i64 mi]]):=by rw[hS0];rfl
 refine Ya (λa V=>V=S0/\a.length=101/\a[1]?=some (.loc 0 0 0)) ?_ ?_
 ·simp only[push_cast,hal,h0,↓WX,simprocAttr]
  exact hS0.symm
 rintro a V ⟨rfl,hal,h1⟩
 refine Ya (λa W=>W=V/\gQ a 101 (a[3]?=some (.nils)) [(1,.loc 0 0 0)]) ?_ ?_
 ·simp only[push_cast,hal,h1,↓WX,simprocAttr]
 rintro a W ⟨rfl,hal,h1,h3⟩
 refine Ya (λa V'=>(KeepF W V'/\FS V' a[3]? 1 30)/\a.length=101/\a[1]?=some (.loc 0 0 0)) ?_ ?_
 ·obtain⟨d1,T1,fs1,p1,q1,g1,l1,z1,k1⟩:=app_s (T:=W) (d:=.nils) (fs:=[]) (z:=30) GL.nil (by simp) (λf h=>by cases h) true 2 (ByteArray.mk #[110,117,109,98,101,114]) (by decide)
  replace p1:=p1 rfl
  by_cases c1:nu<1
  ·simp only[push_cast,hal,h1,h3,g0,c1,p1,FS,↓WX,simprocAttr]
   exact⟨k1,_,_,rfl,g1,by simpa using l1,z1⟩
  by_cases c2:9999<nu
  ·simp only[push_cast,Vn,hal,h1,h3,g0,c1,c2,p1,FS,↓WX,simprocAttr]
   exact⟨k1,_,_,rfl,g1,by simpa using l1,z1⟩
  simp only[push_cast,Vn,hal,h1,h3,g0,c1,c2,FS,↓WX,simprocAttr]
  exact⟨KeepF.refl,_,[],rfl,GL.nil,by simp,λf h=>by cases h⟩
 rintro a V1 ⟨⟨k1,d1,fs1,h3,g1,l1,z1⟩,hal,h1⟩
 have v1:=k1 _ _ hnf g0
 refine Ya (λa V'=>(KeepF V1 V'/\FS V' a[3]? 2 30)/\a.length=101/\a[1]?=some (.loc 0 0 0)) ?_ ?_
 ·obtain⟨d2,T2,fs2,p2,q2,g2,l2,z2,k2⟩:=app_s g1 (by omega) z1 true 4 (ByteArray.mk #[108,105,110,107,115]) (by decide)
  replace p2:=p2 rfl
  by_cases c1:(128:Int)<l.length
  ·simp only[push_cast,Vn,hal,h1,h3,v1,c1,p2,FS,↓WX,simprocAttr]
   exact⟨k2,_,_,rfl,g2,by omega,z2⟩
  simp only[push_cast,Vn,hal,h1,h3,v1,c1,FS,↓WX,simprocAttr]
  exact⟨KeepF.refl,_,_,rfl,g1,by omega,z1⟩
 rintro a V2 ⟨⟨k2,d2,fs2,h3,g2,l2,z2⟩,hal,h1⟩
 have v2:=k2 _ _ hnf v1
 refine Ya (λa V'=>(KeepF V2 V'/\FS V' a[3]? 399 30)/\a.length=101/\a[1]?=some (.loc 0 0 0)) ?_ ?_
 ·simp only[push_cast,↓WX,simprocAttr]
  by_cases cb:l.length<=128
  case neg=>
   have cb':¬(l.length:Int)<=128:=by omega
   have cb2:(0:Int)<l.length:=by omega
   refine Yk (λi a V'=>(i=0/\KeepF V2 V'/\FS V' a[3]? 399 30)/\a.length=101/\a[1]?=some (.loc 0 0 0)/\a[4]?=some (.int .i64 i)) 0 ?_ (by omega) ?_
   ·simp only[push_cast,hal,h1,h3,FS,simprocAttr,WY]
    exact⟨KeepF.refl,_,_,rfl,g2,by omega,z2⟩
   rintro i a V' hi ⟨⟨rfl,k3,d3,fs3,h3,g3,l3,z3⟩,hal,h1,h4⟩
   have v3:=k3 _ _ hnf v2
   simp only[push_cast,hal,h1,h3,h4,v3,cb',cb2,FS,↓WX,simprocAttr,WY]
   exact⟨k3,_,_,rfl,g3,l3,z3⟩
  have cb':(l.length:Int)<=128:=by omega
  refine Yk (λi a V'=>(KeepF V2 V'/\FS V' a[3]? (2+3*i) 30)/\a.length=101/\a[1]?=some (.loc 0 0 0)/\a[4]?=some (.int .i64 i)) l.length ?_ (by omega) ?_
  ·simp only[push_cast,hal,h1,h3,FS,simprocAttr,WY]
   exact⟨KeepF.refl,_,_,rfl,g2,by omega,z2⟩
  rintro i a T hi ⟨⟨k3,d,fs,h3,hg,hfl,hfz⟩,hal,h1,h4⟩
  have v3:=k3 _ _ hnf v2
  rcases Kw hi with hlt |rfl
  case inr=>
   simp only[push_cast,hal,h1,h3,h4,v3,FS,↓WX,simprocAttr,WY]
   exact⟨k3,_,_,rfl,hg,by omega,hfz⟩
  obtain⟨x,hx⟩:∃x,l[i]?=some x:=⟨l[i],by simp⟩
  have hxb:=hz x (Kx hx)
  have hltc:(i:Int)<l.length:=by omega
  have hne:¬i=l.length:=by omega
  obtain⟨q,hq,cq⟩:=Wb.rdecW (n:=n) (i:=i) (by omega) (by omega)
  have hsz:linkT.size=5:=rfl
  have mq:=mx_of (a:=linkT) (b:=q) (by omega)
  have hat:(linkT++q).size<=30:=by rw[ba_len];omega
  unfold linkT at mq
  have ca1:=λst S=>rAirport_c (n:=n) (s:=x.1) (by omega) (by omega) st S
  have ca2:=λst S=>rAirport_c (n:=n) (s:=x.2) (by omega) (by omega) st S
  generalize lettS x.1 3=b1 at*
  generalize lettS x.2 3=b2 at*
  obtain⟨vl,cl⟩:=Link22_c (n:=n) (l:=l.take i) (lx:=false) (by rw[Ve];omega) (by omega) x.1 x.2
  rw[List.map_take]at cl
  obtain⟨S1,hS1⟩:∃S1,S1=T++[Ob.row 2 [[.str x.1,.str x.2]]]:=⟨_,rfl⟩
  have k4:KeepF V2 S1:=k3.trans (by rw[hS1];exact KeepF.push)
  have hg1:GL 2 encF S1 d fs:=by rw[hS1];exact hg.push _
  have e1:S1[T.length]?=some (.row 2 [[.str x.1,.str x.2]]):=by rw[hS1];exact Yl
  refine Ya (λa V=>V=T/\gQ a 101 (a[4]?=some (.int .i64 i)) [(1,.loc 0 0 0),(3,d)]) ?_ ?_
  ·simp only[push_cast,hal,h1,h3,h4,v3,hltc,cb',↓WX,simprocAttr]
  rintro a V ⟨rfl,hal,h1,h3,h4⟩
  rw[Zx,Yx]
  refine Ya (λa W=>W=S1/\gQ a 101 (a[5]?=some (.loc V.length 0 0)) [(1,.loc 0 0 0),(3,d),(4,.int .i64 i)]) ?_ ?_
  ·simp only[push_cast,hal,h1,h3,h4,v3,hx,Yq,Yl,↓WX,simprocAttr]
   exact hS1.symm
  rintro a W ⟨rfl,hal,h1,h3,h4,h5⟩
  have w3:=k4 _ _ hnf v2
  refine Ya (λa X=>X=W/\gQ a 101 (a[6]?=some (.str (linkT++q))) [(1,.loc 0 0 0),(3,d),(4,.int .i64 i),(5,.loc V.length 0 0)]) ?_ ?_
  ·unfold linkT
   simp only[push_cast,Vn,hal,h1,h3,h4,h5,cq,mq,↓WX,simprocAttr]
  rintro a X ⟨rfl,hal,h1,h3,h4,h5,h6⟩
  generalize linkT++q=at0 at*
  refine Ya (λa V'=>(KeepF X V'/\FS V' a[3]? (2+3*i+1) 30)/\gQ a 101 (a[6]?=some (.str at0)) [(1,.loc 0 0 0),(4,.int .i64 i),(5,.loc V.length 0 0)]) ?_ ?_
  ·obtain⟨d5,T5,fs5,p5,q5,g5,l5,z5,k5⟩:=app_s hg1 (by omega) hfz true 5 at0 hat
   replace p5:=p5 rfl
   cases b1
   ·simp only[push_cast,hal,h1,h3,h4,h5,h6,e1,ca1,p5,dUn,FS,↓WX,simprocAttr,WY]
    exact⟨k5,_,_,rfl,g5,by omega,z5⟩
   cases b2
   ·simp only[push_cast,hal,h1,h3,h4,h5,h6,e1,ca1,ca2,p5,dUn,FS,↓WX,simprocAttr,WY]
    exact⟨k5,_,_,rfl,g5,by omega,z5⟩
   simp only[push_cast,hal,h1,h3,h4,h5,h6,e1,ca1,ca2,dUn,FS,↓WX,simprocAttr,WY]
   exact⟨KeepF.refl,_,_,rfl,hg1,by omega,hfz⟩
  rintro a V5 ⟨⟨k5,d5,fs5,h3,g5,l5,z5⟩,hal,h1,h4,h5,h6⟩
  have e5:=k5 _ _ not_fault2 e1
  refine Ya (λa V'=>(KeepF V5 V'/\FS V' a[3]? (2+3*i+2) 30)/\gQ a 101 (a[6]?=some (.str at0)) [(1,.loc 0 0 0),(4,.int .i64 i),(5,.loc V.length 0 0)]) ?_ ?_
  ·obtain⟨d6,T6,fs6,p6,q6,g6,l6,z6,k6⟩:=app_s g5 (by omega) z5 true 2 at0 hat
   replace p6:=p6 rfl
   by_cases qe:x.1=x.2
   ·simp only[push_cast,hal,h1,h3,h4,h5,h6,e5,qe,Yo,p6,FS,↓WX,simprocAttr]
    exact⟨k6,_,_,rfl,g6,by omega,z6⟩
   simp only[push_cast,hal,h1,h3,h4,h5,h6,e5,qe,Yo,FS,↓WX,simprocAttr]
   exact⟨KeepF.refl,_,_,rfl,g5,by omega,z5⟩
  rintro a V6 ⟨⟨k6,d6,fs6,h3,g6,l6,z6⟩,hal,h1,h4,h5,h6⟩
  have e6:=k6 _ _ not_fault2 e5
  have kk:KeepF V2 V6:=(k4.trans k5).trans k6
  have w6:=kk _ _ hnf v2
  obtain⟨d7,T7,fs7,p7,q7,g7,l7,z7,k7⟩:=app_s g6 (by omega) z6 true 6 at0 hat
  replace p7:=p7 rfl
  by_cases c7:0<=vl
  ·simp(disch:=omega)only[push_cast,hal,h1,h3,h4,h5,h6,w6,e6,hlt,hi,hne,cl,c7,p7,Vt,Nat.sub_zero,List.drop_zero,Bool.and_false,Yf,FS,↓WX,simprocAttr,WY]
   exact⟨kk.trans k7,_,_,rfl,g7,by omega,z7⟩
  ·simp(disch:=omega)only[push_cast,hal,h1,h3,h4,h5,w6,e6,hlt,hi,hne,cl,c7,Vt,Nat.sub_zero,List.drop_zero,Bool.and_false,Yf,FS,↓WX,simprocAttr,WY]
   exact⟨kk,_,_,rfl,g6,by omega,z6⟩
 rintro a V3 ⟨⟨k3,d3,fs3,h3,g3,l3,z3⟩,hal,h1⟩
 have v3:=k3 _ _ hnf v2
 obtain⟨d4,T4,fs4,p4,q4,g4,l4,z4,k4⟩:=app_s g3 (by omega) z3 true 2 (ByteArray.mk #[109,105,108,101,115]) (by decide)
 replace p4:=p4 rfl
 by_cases c1:mi<0
 ·simp only[push_cast,hal,h1,h3,v3,c1,p4,Tryz.f47,↓WX,simprocAttr]
  exact⟨_,g4,by omega,z4⟩
 by_cases c2:99999<mi
 ·simp only[push_cast,Vn,hal,h1,h3,v3,c1,c2,p4,Tryz.f47,↓WX,simprocAttr]
  exact⟨_,g4,by omega,z4⟩
 simp only[push_cast,Vn,hal,h1,h3,v3,c1,c2,Tryz.f47,↓WX,simprocAttr]
 exact⟨_,g3,by omega,z3⟩
theorem Check22_c {nu mi:Int} {l:List (ByteArray×ByteArray)} {lx:Bool} (hl:l.length<=1048576) (hz:∀x∈l,x.1.size<=1048576/\x.2.size<=1048576) (hn:1048701<=n):∃d,FR d 400 30/\∀st S,Yi E (Yb E n) st S 47 [.agg [.int .i64 nu,.sl 2 (l.map encLk) lx,.int .i64 mi]]=some (d,S):=by
 obtain⟨m,rfl⟩:∃m,n=m+1:=⟨n-1,by omega⟩
 obtain⟨d,T,ho,fs,hg,h1,h2⟩:=Check22_d (n:=m) (nu:=nu) (mi:=mi) (lx:=lx) hl hz (by omega)
 obtain⟨d',f,hf⟩:=GL_fz hg
 exact⟨d',⟨fs,hf,h1,h2⟩,λst S=>Yd rfl (by simp[Yc,Yg,D.pure,encLk_pure]) ho f⟩
end
end Go.Proofs.YtaklebjoenophaaGreat.Dm
