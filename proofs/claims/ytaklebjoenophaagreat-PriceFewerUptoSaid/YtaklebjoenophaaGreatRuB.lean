/-
  The reference's violations of the percents of a rule.
  The reference's violations of a routing.
  The reference's violations of taxes.
  The reference's check of taxes: some list.
  The reference's check of a routing: some list.
-/
import Derived.Test.YtaklebjoenophaaGreatCdB
set_option maxHeartbeats 64000000
set_option maxRecDepth 100000
set_option linter.unusedSimpArgs false
set_option linter.unusedVariables false
namespace Go.Proofs.YtaklebjoenophaaGreat.Dm
open Go Gw
abbrev encPc (p:ByteArray×Int):List D:=[.str p.1,.int .i64 p.2]
theorem encPc_pure (l:List (ByteArray×Int)):pureLL (l.map encPc)=true:=by
 induction l with
 |nil=>rfl
 |cons f fs ih=>rw[Zh,pureLL_cons,ih];rfl
def percT:ByteArray:=ByteArray.mk #[112,101,114,99,101,110,116,32]
section
variable {n : Nat}
theorem percents21_d {l:List (ByteArray×Int)} {lx:Bool} (hl:l.length<=1048576) (hz:∀p∈l,p.1.size<=1048576) (hn:1048700<=n):
  WO (dcall E (n+1) 110 [.sl 2 (l.map encPc) lx] []) λd T=>∃fs,GL 2 encF T d fs/\fs.length<=3*l.length/\SZ (∀p∈l,0<=p.2/\p.2<=1000) fs 30:=by
 obtain⟨P,hP0,hPs,hPl⟩:=takeP l λp=>0<=p.2/\p.2<=1000
 refine wo_dcall Tryz.func110 rfl (by decide) rfl 74 rfl (λa hal ha=>?_)
 have h0:a[0]?=some _:=ha 0 (by simp)
 clear ha
 simp only[push_cast,↓WX,simprocAttr]
 refine wl_loop (λi a T=>FSP (P i) T a[3]? (3*i) 30/\a.length=74/\a[0]?=some (.sl 2 (l.map encPc) lx)/\a[4]?=some (.int .i64 i)) l.length ?_ (by omega) ?_
 ·simp only[push_cast,hal,h0,FSP,simprocAttr,WY]
  exact⟨_,_,rfl,GL.nil,Xb _,SZ.nil hP0⟩
 rintro i a T hi ⟨⟨d,fs,h3,hg,hfl,hfz⟩,hal,h0,h4⟩
 rcases Yf hi with hlt |rfl
 case inr=>
  simp only[push_cast,hal,h0,h3,h4,Tryz.f110,↓WX,simprocAttr,WY]
  exact⟨fs,hg,hfl,hfz.mono hPl⟩
 obtain⟨x,hx⟩:∃x,l[i]?=some x:=⟨l[i],by simp⟩
 have hltc:(i:Int)<l.length:=by omega
 obtain⟨q,hq,cq⟩:=Wb.rdecW (n:=n) (i:=i) (by omega) (by omega)
 have hsz:percT.size=8:=rfl
 have mq:=mx_of (a:=percT) (b:=q) (by omega)
 have hat:(percT++q).size<=30:=by rw[ba_len];omega
 unfold percT at mq
 refine wc_scut (λa V=>V=T/\a.length=74/\a[0]?=some (.sl 2 (l.map encPc) lx)/\a[3]?=some (d)/\a[4]?=some (.int .i64 i)) ?_ ?_
 ·simp only[push_cast,hal,h0,h3,h4,hltc,↓WX,simprocAttr]
 rintro a V ⟨rfl,hal,h0,h3,h4⟩
 rw[wc_seq,wc_block]
 refine wc_scut (λa W=>W=V/\a.length=74/\a[0]?=some (.sl 2 (l.map encPc) lx)/\a[3]?=some (d)/\a[4]?=some (.int .i64 i)/\a[5]?=some (.str (percT++q))/\a[6]?=some (.bool false)) ?_ ?_
 ·unfold percT
  simp only[push_cast,Zx,hal,h0,h3,h4,cq,mq,↓WX,simprocAttr]
 rintro a W ⟨rfl,hal,h0,h3,h4,h5,h6⟩
 generalize percT++q=at0 at*
 refine wc_scut (λa V=>(V=W/\∃b,a[6]?=some (.bool b))/\a.length=74/\a[0]?=some (.sl 2 (l.map encPc) lx)/\a[3]?=some (d)/\a[4]?=some (.int .i64 i)/\a[5]?=some (.str at0)) ?_ ?_
 ·simp only[push_cast,↓WX,simprocAttr]
  refine wl_loop (λk a V=>(V=W/\∃b,a[6]?=some (.bool b))/\a.length=74/\a[0]?=some (.sl 2 (l.map encPc) lx)/\a[3]?=some (d)/\a[4]?=some (.int .i64 i)/\a[5]?=some (.str at0)/\a[7]?=some (.int .i64 k)) i ?_ (by omega) ?_
  ·simp only[push_cast,hal,h0,h3,h4,h5,h6,simprocAttr,WY]
   exact⟨_,rfl⟩
  rintro k a V hk ⟨⟨rfl,b,h6⟩,hal,h0,h3,h4,h5,h7⟩
  rcases Yf hk with hkt |rfl
  case inr=>
   simp only[push_cast,hal,h0,h3,h4,h5,h6,h7,↓WX,simprocAttr,WY]
   exact⟨_,rfl⟩
  obtain⟨y,hy⟩:∃y,l[k]?=some y:=⟨l[k]'(by omega),by simp⟩
  have hktc:(k:Int)<i:=by omega
  have hkl:k<l.length:=by omega
  cases b
  ·by_cases qe:y.1=x.1
   ·simp(maxSteps:=1000000)(disch:=omega)only[push_cast,hal,h0,h3,h4,h5,h6,h7,hktc,hkt,hx,hy,qe,str_eq,wrap_ok,Int.natCast_add,Int.natCast_one,↓WX,simprocAttr]
    exact⟨_,rfl⟩
   ·simp(maxSteps:=1000000)(disch:=omega)only[push_cast,hal,h0,h3,h4,h5,h6,h7,hktc,hkt,hx,hy,qe,str_eq,wrap_ok,Int.natCast_add,Int.natCast_one,↓WX,simprocAttr]
    exact⟨_,rfl⟩
  ·simp(maxSteps:=1000000)(disch:=omega)only[push_cast,hal,h0,h3,h4,h5,h6,h7,hktc,hkt,wrap_ok,Int.natCast_add,Int.natCast_one,↓WX,simprocAttr]
   exact⟨_,rfl⟩
 rintro a V ⟨⟨rfl,b,h6⟩,hal,h0,h3,h4,h5⟩
 obtain⟨bc,cc⟩:=rCode3_c (n:=n) (s:=x.1) (by have:=hz x (Yg hx);omega) (by have:=hz x (Yg hx);omega)
 refine wc_scut (λa V'=>FSP (P i) V' a[3]? (3*i+1) 30/\a.length=74/\a[0]?=some (.sl 2 (l.map encPc) lx)/\a[4]?=some (.int .i64 i)/\a[5]?=some (.str at0)/\a[6]?=some (.bool b)) ?_ ?_
 ·obtain⟨d1,T1,fs1,p1,q1,g1,l1,z1,k1⟩:=app_sP hg (by omega) hfz (!bc) 5 at0 hat
  cases bc
  ·replace p1:=(p1 rfl).1
   simp only[push_cast,hal,h0,h3,h4,h5,h6,hx,cc,p1,dUn,FSP,↓WX,simprocAttr,WY]
   exact⟨_,_,rfl,g1,by omega,z1⟩
  ·simp only[push_cast,hal,h0,h3,h4,h5,h6,hx,cc,dUn,FSP,↓WX,simprocAttr,WY]
   exact⟨_,_,rfl,hg,by omega,hfz⟩
 rintro a V' ⟨⟨d1,fs1,h3,g1,l1,z1⟩,hal,h0,h4,h5,h6⟩
 refine wc_scut (λa V'=>FSP (P i) V' a[3]? (3*i+2) 30/\a.length=74/\a[0]?=some (.sl 2 (l.map encPc) lx)/\a[4]?=some (.int .i64 i)/\a[5]?=some (.str at0)) ?_ ?_
 ·obtain⟨d2,T2,fs2,p2,q2,g2,l2,z2,k2⟩:=app_sP g1 (by omega) z1 b 6 at0 hat
  cases b
  ·simp only[push_cast,hal,h0,h3,h4,h5,h6,FSP,↓WX,simprocAttr]
   exact⟨_,_,rfl,g1,by omega,z1⟩
  ·replace p2:=(p2 rfl).1
   simp only[push_cast,hal,h0,h3,h4,h5,h6,p2,FSP,↓WX,simprocAttr]
   exact⟨_,_,rfl,g2,by omega,z2⟩
 rintro a V' ⟨⟨d2,fs2,h3,g2,l2,z2⟩,hal,h0,h4,h5⟩
 obtain⟨d3,T3,fs3,p3,q3,g3,l3,z3,k3⟩:=app_sP g2 (by omega) z2 true 2 at0 hat
 have w3:=(p3 rfl).2
 replace p3:=(p3 rfl).1
 by_cases c1:x.2<0
 ·simp(maxSteps:=1000000)(disch:=omega)only[push_cast,hal,h0,h3,h4,h5,hlt,hx,c1,p3,FSP,wrap_ok,Int.natCast_add,Int.natCast_one,↓WX,simprocAttr]
  exact⟨_,_,rfl,g3,by omega,w3.any⟩
 by_cases c2:1000<x.2
 ·simp(maxSteps:=1000000)(disch:=omega)only[push_cast,Zx,hal,h0,h3,h4,h5,hlt,hx,c1,c2,p3,FSP,wrap_ok,Int.natCast_add,Int.natCast_one,↓WX,simprocAttr]
  exact⟨_,_,rfl,g3,by omega,w3.any⟩
 simp(maxSteps:=1000000)(disch:=omega)only[push_cast,Zx,hal,h0,h3,h4,hlt,hx,c1,c2,FSP,wrap_ok,Int.natCast_add,Int.natCast_one,↓WX,simprocAttr]
 exact⟨_,_,rfl,g2,by omega,z2.mono λe=>hPs i x hx e ⟨by omega,by omega⟩⟩
theorem percents21_c {l:List (ByteArray×Int)} {lx:Bool} (hl:l.length<=1048576) (hz:∀p∈l,p.1.size<=1048576) (hn:1048701<=n):∃d,FRP (∀p∈l,0<=p.2/\p.2<=1000) d (3*l.length) 30/\∀st S,callD E (dcall E n) st S 110 [.sl 2 (l.map encPc) lx]=some (d,S):=by
 obtain⟨m,rfl⟩:∃m,n=m+1:=⟨n-1,by omega⟩
 obtain⟨d,T,ho,fs,hg,h1,h2⟩:=percents21_d (n:=m) (lx:=lx) hl hz (by omega)
 obtain⟨d',f,hf⟩:=GL_fz hg
 exact⟨d',⟨fs,hf,h1,h2⟩,λst S=>callD_pure rfl (by simp[pureL_cons,pureL_nil,D.pure,encPc_pure]) ho f⟩
end
abbrev encLk (p:ByteArray×ByteArray):List D:=[.str p.1,.str p.2]
theorem encLk_pure (l:List (ByteArray×ByteArray)):pureLL (l.map encLk)=true:=by
 induction l with
 |nil=>rfl
 |cons f fs ih=>rw[Zh,pureLL_cons,ih];rfl
def linkT:ByteArray:=ByteArray.mk #[108,105,110,107,32]
section
variable {n : Nat}
theorem Link22_c {l:List (ByteArray×ByteArray)} {lx:Bool} (hl:l.length<=1048576) (hn:1048580<=n) (s u:ByteArray):∃v:Int,∀st S,callD E (dcall E n) st S 111 [.sl 2 (l.map encLk) lx,.str s,.str u]=some (.int .i64 v,S):=by
 obtain⟨m,rfl⟩:∃m,n=m+1:=⟨n-1,by omega⟩
 have:WO (dcall E (m+1) 111 [.sl 2 (l.map encLk) lx,.str s,.str u] []) λr T=>∃v:Int,r=.int .i64 v:=by
  refine wo_dcall Tryz.func111 rfl (by decide) rfl 31 rfl (λa hal ha=>?_)
  have h0:a[0]?=some _:=ha 0 (by simp)
  have h1:a[1]?=some _:=ha 1 (by simp)
  have h2:a[2]?=some _:=ha 2 (by simp)
  clear ha
  simp only[push_cast,↓WX,simprocAttr]
  refine wl_loop (λi a T=>a.length=31/\a[0]?=some (.sl 2 (l.map encLk) lx)/\a[1]?=some (.str s)/\a[2]?=some (.str u)/\a[7]?=some (.int .i64 i)) l.length ?_ (by omega) ?_
  ·simp only[push_cast,hal,h0,h1,h2,simprocAttr,WY]
  rintro i a T hi ⟨hal,h0,h1,h2,h7⟩
  rcases Yf hi with hlt |rfl
  case inr=>
   simp only[push_cast,hal,h0,h7,Tryz.f111,↓WX,simprocAttr,WY]
   exact⟨_,rfl⟩
  obtain⟨x,hx⟩:∃x,l[i]?=some x:=⟨l[i],by simp⟩
  have hltc:(i:Int)<l.length:=by omega
  by_cases q:x.1=s
  ·by_cases q2:x.2=u
   ·simp(maxSteps:=1000000)(disch:=omega)only[push_cast,hal,h0,h1,h2,h7,hltc,hx,q,q2,str_eq,Tryz.f111,↓WX,simprocAttr]
    exact⟨_,rfl⟩
   ·simp(maxSteps:=1000000)(disch:=omega)only[push_cast,hal,h0,h1,h2,h7,hltc,hlt,hx,q,q2,str_eq,wrap_ok,Int.natCast_add,Int.natCast_one,↓WX,simprocAttr]
  ·simp(maxSteps:=1000000)(disch:=omega)only[push_cast,hal,h0,h1,h2,h7,hltc,hlt,hx,q,str_eq,wrap_ok,Int.natCast_add,Int.natCast_one,↓WX,simprocAttr]
 obtain⟨_,T,ho,v,rfl⟩:=this
 exact⟨v,λst S=>callD_pure rfl (by simp[pureL_cons,pureL_nil,D.pure,encLk_pure]) ho rfl⟩
end
structure Tx where
 code:ByteArray
 kind:Int
 land:ByteArray
 amount:Int
 scope:Int
 transit:Int
 free:List ByteArray
 freex:Bool
def Tx.enc (x:Tx):List D:=[.str x.code,.int .i64 x.kind,.str x.land,.int .i64 x.amount,.int .i64 x.scope,.int .i64 x.transit,.sl 1 (x.free.map Cnd.encT) x.freex]
theorem Tx_pure (r:Tx):pureL r.enc=true:=by
 simp only[D.pure,pureL_cons,pureL_nil,Bool.and_self,Tx.enc,Cnd.encT_pure]
theorem Txs_pure (l:List Tx):pureLL (l.map Tx.enc)=true:=by
 induction l with
 |nil=>rfl
 |cons f fs ih=>rw[Zh,pureLL_cons,ih,Tx_pure];rfl
structure TxG (x:Tx):Prop where
 kind:1<=x.kind/\x.kind<=4
 scope:0<=x.scope/\x.scope<=2
 am:0<=x.amount/\x.amount<=1099511627776
 fa:x.kind=4->x.amount<=100000
def taxT:ByteArray:=ByteArray.mk #[116,97,120,32]
section
variable {n : Nat}
theorem rCodeK_c {s:ByteArray} (k:Int) (hn:s.size+6<n) (hz:s.size<=9223372036854775807):∃b,∀st S,callD E (dcall E n) st S 105 [.str s,.int .i64 k,.int .i64 k]=some (.bool b,S):=by
 obtain⟨m,rfl⟩:∃m,n=m+1:=⟨n-1,by omega⟩
 exact⟨_,λst S=>callD_pure rfl rfl (eq_of_wo (ref_Code_d (by omega) hz)) rfl⟩
theorem most27_c (hn:1<=n) (k:Int):∃v:Int,(v<=1099511627776/\(k=4->v<=100000))/\∀st S,callD E (dcall E n) st S 49 [.int .i64 k]=some (.int .i64 v,S):=by
 obtain⟨m,rfl⟩:∃m,n=m+1:=⟨n-1,by omega⟩
 have:WO (dcall E (m+1) 49 [.int .i64 k] []) λr T=>∃v:Int,r=.int .i64 v/\(v<=1099511627776/\(k=4->v<=100000)):=by
  refine wo_dcall Tryz.func49 rfl (by decide) rfl 5 rfl (λa hal ha=>?_)
  have h0:a[0]?=some _:=ha 0 (by simp)
  clear ha
  obtain⟨K,hK⟩:∃K:Int->Prop,K=λv=>v<=1099511627776/\(k=4->v<=100000):=⟨_,rfl⟩
  rw[show (λ(r:D) (T:List Ob)=>∃v:Int,r=.int .i64 v/\(v<=1099511627776/\(k=4->v<=100000)))=λr T=>∃v:Int,r=.int .i64 v/\K v by rw[hK]]
  by_cases q:k=4
  ·simp only[push_cast,hal,h0,q,Tryz.f49,↓WX,simprocAttr]
   exact⟨_,rfl,by rw[hK];exact⟨by decide,λ_=>by decide⟩⟩
  ·simp only[push_cast,hal,h0,q,Tryz.f49,↓WX,simprocAttr]
   exact⟨_,rfl,by rw[hK];exact⟨by decide,λh=>absurd h q⟩⟩
 obtain⟨_,T,ho,v,rfl,hv⟩:=this
 exact⟨v,hv,λst S=>callD_pure rfl rfl ho rfl⟩
theorem named27_c (x:Tx) (z1:x.code.size<=1048576) (z2:x.land.size<=1048576) (z3:∀s∈x.free,s.size<=1048576) (z4:x.free.length<=1048576) (hn:1048700<=n):∃b,∀st S,callD E (dcall E n) st S 48 [.agg x.enc]=some (.bool b,S):=by
 obtain⟨m,rfl⟩:∃m,n=m+1:=⟨n-1,by omega⟩
 obtain⟨b1,c1⟩:=rCodeK_c (n:=m) (s:=x.code) 2 (by omega) (by omega)
 have c2:=λst S=>rCountry_c (n:=m) (s:=x.land) (by omega) (by omega) st S
 generalize lettS x.land 2=b2 at*
 have hp:=Tx_pure x
 simp only[Tx.enc]at hp ⊢
 have:WO (dcall E (m+1) 48 [.agg [.str x.code,.int .i64 x.kind,.str x.land,.int .i64 x.amount,.int .i64 x.scope,.int .i64 x.transit,.sl 1 (x.free.map Cnd.encT) x.freex]] []) λr T=>∃b,r=.bool b:=by
  refine wo_dcall Tryz.func48 rfl (by decide) rfl 28 rfl (λa hal ha=>?_)
  have h0:a[0]?=some _:=ha 0 (by simp)
  clear ha
  cases b1
  case false=>
   simp only[push_cast,hal,h0,c1,dUn,Tryz.f48,↓WX,simprocAttr,WY]
   exact⟨_,rfl⟩
  cases b2
  case false=>
   simp only[push_cast,hal,h0,c1,c2,dUn,Tryz.f48,↓WX,simprocAttr,WY]
   exact⟨_,rfl⟩
  simp only[push_cast,hal,h0,c1,c2,dUn,↓WX,simprocAttr,WY]
  refine wl_loop (λi a T=>T=[Ob.row 7 [[.str x.code,.int .i64 x.kind,.str x.land,.int .i64 x.amount,.int .i64 x.scope,.int .i64 x.transit,.sl 1 (x.free.map Cnd.encT) x.freex]]]/\a.length=28/\a[1]?=some (.loc 0 0 0)/\a[3]?=some (.int .i64 i)) x.free.length ?_ (by omega) ?_
  ·simp only[push_cast,hal,simprocAttr,WY]
  rintro i a T hi ⟨rfl,hal,h1,h3⟩
  rcases Yf hi with hlt |rfl
  case inr=>
   simp only[push_cast,hal,h1,h3,Tryz.f48,↓WX,simprocAttr,WY]
   exact⟨_,rfl⟩
  obtain⟨y,hy⟩:∃y,x.free[i]?=some y:=⟨x.free[i],by simp⟩
  have hltc:(i:Int)<x.free.length:=by omega
  have hys:=z3 y (Yg hy)
  obtain⟨b3,c3⟩:=rCodeK_c (n:=m) (s:=y) 3 (by omega) (by omega)
  cases b3
  ·simp(maxSteps:=1000000)(disch:=omega)only[push_cast,hal,h1,h3,hltc,hy,c3,dUn,Bool.not_false,Tryz.f48,↓WX,simprocAttr]
   exact⟨_,rfl⟩
  ·simp(maxSteps:=1000000)(disch:=omega)only[push_cast,hal,h1,h3,hltc,hlt,hy,c3,dUn,Bool.not_true,wrap_ok,Int.natCast_add,Int.natCast_one,↓WX,simprocAttr]
 obtain⟨_,T,ho,b,rfl⟩:=this
 exact⟨b,λst S=>callD_pure rfl (by rw[pureL_cons,D.pure,hp];rfl) ho rfl⟩
end
theorem not_fault7 {es:List (List D)}:¬FaultOb (.row 7 es):=by
 rintro⟨fs,e⟩
 injection e with e
 cases e
structure TxB (x:Tx):Prop where
 code:x.code.size<=1048576
 land:x.land.size<=1048576
 frs:∀s∈x.free,s.size<=1048576
 frl:x.free.length<=1048576
section
variable {n : Nat}
theorem Check27_d {l:List Tx} {lx:Bool} (hl:l.length<=1048576) (hz:∀x∈l,TxB x) (hn:1048700<=n):
  WO (dcall E (n+1) 22 [.sl 7 (l.map Tx.enc) lx] []) λd T=>∃fs,GL 2 encF T d fs/\fs.length<=3*l.length/\SZ (∀x∈l,TxG x) fs 30:=by
 obtain⟨P,hP0,hPs,hPl⟩:=takeP l TxG
 refine wo_dcall Tryz.func22 rfl (by decide) rfl 78 rfl (λa hal ha=>?_)
 have h0:a[0]?=some _:=ha 0 (by simp)
 clear ha
 simp only[push_cast,↓WX,simprocAttr]
 refine wl_loop (λi a T=>FSP (P i) T a[3]? (3*i) 30/\a.length=78/\a[0]?=some (.sl 7 (l.map Tx.enc) lx)/\a[4]?=some (.int .i64 i)) l.length ?_ (by omega) ?_
 ·simp only[push_cast,hal,h0,FSP,simprocAttr,WY]
  exact⟨_,_,rfl,GL.nil,Xb _,SZ.nil hP0⟩
 rintro i a T hi ⟨⟨d,fs,h3,hg,hfl,hfz⟩,hal,h0,h4⟩
 rcases Yf hi with hlt |rfl
 case inr=>
  simp only[push_cast,hal,h0,h3,h4,Tryz.f22,↓WX,simprocAttr,WY]
  exact⟨fs,hg,hfl,hfz.mono hPl⟩
 obtain⟨x,hx⟩:∃x,l[i]?=some x:=⟨l[i],by simp⟩
 have hxb:=hz x (Yg hx)
 have hltc:(i:Int)<l.length:=by omega
 obtain⟨q,hq,cq⟩:=Wb.rdecW (n:=n) (i:=i) (by omega) (by omega)
 have hsz:taxT.size=4:=rfl
 have mq:=mx_of (a:=taxT) (b:=q) (by omega)
 have hat:(taxT++q).size<=30:=by rw[ba_len];omega
 unfold taxT at mq
 obtain⟨bn,cn⟩:=named27_c (n:=n) x hxb.code hxb.land hxb.frs hxb.frl (by omega)
 obtain⟨vm,hvm,cm⟩:=most27_c (n:=n) (by omega) x.kind
 have hxe:x.enc=[.str x.code,.int .i64 x.kind,.str x.land,.int .i64 x.amount,.int .i64 x.scope,.int .i64 x.transit,.sl 1 (x.free.map Cnd.encT) x.freex]:=rfl
 rw[hxe]at cn
 obtain⟨S0,hS0⟩:∃S0,S0=T++[Ob.row 7 [[.str x.code,.int .i64 x.kind,.str x.land,.int .i64 x.amount,.int .i64 x.scope,.int .i64 x.transit,.sl 1 (x.free.map Cnd.encT) x.freex]]]:=⟨_,rfl⟩
 have g0:S0[T.length]?=some (.row 7 [[.str x.code,.int .i64 x.kind,.str x.land,.int .i64 x.amount,.int .i64 x.scope,.int .i64 x.transit,.sl 1 (x.free.map Cnd.encT) x.freex]]):=by rw[hS0];exact get_end
 have hg0:GL 2 encF S0 d fs:=by rw[hS0];exact hg.push _
 refine wc_scut (λa V=>V=T/\a.length=78/\a[0]?=some (.sl 7 (l.map Tx.enc) lx)/\a[3]?=some (d)/\a[4]?=some (.int .i64 i)) ?_ ?_
 ·simp only[push_cast,hal,h0,h3,h4,hltc,↓WX,simprocAttr]
 rintro a V ⟨rfl,hal,h0,h3,h4⟩
 rw[wc_seq,wc_block]
 refine wc_scut (λa W=>W=S0/\a.length=78/\a[0]?=some (.sl 7 (l.map Tx.enc) lx)/\a[3]?=some (d)/\a[4]?=some (.int .i64 i)/\a[5]?=some (.loc V.length 0 0)/\a[6]?=some (.str (taxT++q))) ?_ ?_
 ·unfold taxT
  simp only[push_cast,Zx,hal,h0,h3,h4,hx,cq,mq,set_end,get_end,Tx.enc,↓WX,simprocAttr]
  exact hS0.symm
 rintro a W ⟨rfl,hal,h0,h3,h4,h5,h6⟩
 generalize taxT++q=at0 at*
 refine wc_scut (λa V'=>(KeepF W V'/\FSP (P i) V' a[3]? (3*i+1) 30)/\a.length=78/\a[0]?=some (.sl 7 (l.map Tx.enc) lx)/\a[4]?=some (.int .i64 i)/\a[5]?=some (.loc V.length 0 0)/\a[6]?=some (.str at0)) ?_ ?_
 ·obtain⟨d1,T1,fs1,p1,q1,g1,l1,z1,k1⟩:=app_sP hg0 (by omega) hfz (!bn) 5 at0 hat
  cases bn
  ·replace p1:=(p1 rfl).1
   simp only[push_cast,hal,h0,h3,h4,h5,h6,g0,cn,p1,dUn,FSP,↓WX,simprocAttr,WY]
   exact⟨k1,_,_,rfl,g1,by omega,z1⟩
  ·simp only[push_cast,hal,h0,h3,h4,h5,h6,g0,cn,dUn,FSP,↓WX,simprocAttr,WY]
   exact⟨KeepF.refl,_,_,rfl,hg0,by omega,hfz⟩
 rintro a V1 ⟨⟨k1,d1,fs1,h3,g1,l1,z1⟩,hal,h0,h4,h5,h6⟩
 have v1:=k1 _ _ not_fault7 g0
 obtain⟨K,hK⟩:∃K:Prop,K↔(1<=x.kind/\x.kind<=4):=⟨_,Iff.rfl⟩
 refine wc_scut (λa V'=>(KeepF V1 V'/\FSP (P i/\K) V' a[3]? (3*i+2) 30)/\a.length=78/\a[0]?=some (.sl 7 (l.map Tx.enc) lx)/\a[4]?=some (.int .i64 i)/\a[5]?=some (.loc V.length 0 0)/\a[6]?=some (.str at0)) ?_ ?_
 ·obtain⟨d2,T2,fs2,p2,q2,g2,l2,z2,k2⟩:=app_sP g1 (by omega) z1 true 8 at0 hat
  have w2:=(p2 rfl).2
  replace p2:=(p2 rfl).1
  by_cases c1:x.kind<1
  ·simp only[push_cast,hal,h0,h3,h4,h5,h6,v1,c1,p2,FSP,↓WX,simprocAttr]
   exact⟨k2,_,_,rfl,g2,by omega,w2.any⟩
  by_cases c2:4<x.kind
  ·simp only[push_cast,Zx,hal,h0,h3,h4,h5,h6,v1,c1,c2,p2,FSP,↓WX,simprocAttr]
   exact⟨k2,_,_,rfl,g2,by omega,w2.any⟩
  simp only[push_cast,Zx,hal,h0,h3,h4,h5,h6,v1,c1,c2,FSP,↓WX,simprocAttr]
  exact⟨KeepF.refl,_,_,rfl,g1,by omega,z1.mono λe=>⟨e,hK.2 ⟨by omega,by omega⟩⟩⟩
 rintro a V2 ⟨⟨k2,d2,fs2,h3,g2,l2,z2⟩,hal,h0,h4,h5,h6⟩
 have v2:=k2 _ _ not_fault7 v1
 obtain⟨d3,T3,fs3,p3,q3,g3,l3,z3,k3⟩:=app_sP g2 (by omega) z2 true 2 at0 hat
 have w3:=(p3 rfl).2
 replace p3:=(p3 rfl).1
 by_cases c1:x.amount<0
 ·simp(maxSteps:=1000000)(disch:=omega)only[push_cast,hal,h0,h3,h4,h5,h6,v2,c1,p3,FSP,wrap_ok,Int.natCast_add,Int.natCast_one,↓WX,simprocAttr]
  exact⟨hlt,_,_,rfl,g3,by omega,w3.any⟩
 by_cases c2:vm<x.amount
 ·simp(maxSteps:=1000000)(disch:=omega)only[push_cast,Zx,hal,h0,h3,h4,h5,h6,v2,c1,c2,cm,p3,FSP,wrap_ok,Int.natCast_add,Int.natCast_one,↓WX,simprocAttr]
  exact⟨hlt,_,_,rfl,g3,by omega,w3.any⟩
 by_cases c3:x.scope<0
 ·simp(maxSteps:=1000000)(disch:=omega)only[push_cast,Zx,hal,h0,h3,h4,h5,h6,v2,c1,c2,c3,cm,p3,FSP,wrap_ok,Int.natCast_add,Int.natCast_one,↓WX,simprocAttr]
  exact⟨hlt,_,_,rfl,g3,by omega,w3.any⟩
 by_cases c4:2<x.scope
 ·simp(maxSteps:=1000000)(disch:=omega)only[push_cast,Zx,hal,h0,h3,h4,h5,h6,v2,c1,c2,c3,c4,cm,p3,FSP,wrap_ok,Int.natCast_add,Int.natCast_one,↓WX,simprocAttr]
  exact⟨hlt,_,_,rfl,g3,by omega,w3.any⟩
 by_cases c5:x.transit<0
 ·simp(maxSteps:=1000000)(disch:=omega)only[push_cast,Zx,hal,h0,h3,h4,h5,h6,v2,c1,c2,c3,c4,c5,cm,p3,FSP,wrap_ok,Int.natCast_add,Int.natCast_one,↓WX,simprocAttr]
  exact⟨hlt,_,_,rfl,g3,by omega,w3.any⟩
 by_cases c6:100000<x.transit
 ·simp(maxSteps:=1000000)(disch:=omega)only[push_cast,Zx,hal,h0,h3,h4,h5,h6,v2,c1,c2,c3,c4,c5,c6,cm,p3,FSP,wrap_ok,Int.natCast_add,Int.natCast_one,↓WX,simprocAttr]
  exact⟨hlt,_,_,rfl,g3,by omega,w3.any⟩
 simp(maxSteps:=1000000)(disch:=omega)only[push_cast,Zx,hal,h0,h3,h4,h5,v2,c1,c2,c3,c4,c5,c6,cm,FSP,wrap_ok,Int.natCast_add,Int.natCast_one,↓WX,simprocAttr]
 exact⟨hlt,_,_,rfl,g2,by omega,z2.mono λe=>hPs i x hx e.1 ⟨hK.1 e.2,⟨by omega,by omega⟩,⟨by omega,by have:=hvm.1;omega⟩,λh=>by have:=hvm.2 h;omega⟩⟩
theorem Check27_c {l:List Tx} {lx:Bool} (hl:l.length<=1048576) (hz:∀x∈l,TxB x) (hn:1048701<=n):∃d,FRP (∀x∈l,TxG x) d (3*l.length) 30/\∀st S,callD E (dcall E n) st S 22 [.sl 7 (l.map Tx.enc) lx]=some (d,S):=by
 obtain⟨m,rfl⟩:∃m,n=m+1:=⟨n-1,by omega⟩
 obtain⟨d,T,ho,fs,hg,h1,h2⟩:=Check27_d (n:=m) (lx:=lx) hl hz (by omega)
 obtain⟨d',f,hf⟩:=GL_fz hg
 exact⟨d',⟨fs,hf,h1,h2⟩,λst S=>callD_pure rfl (by simp[pureL_cons,pureL_nil,D.pure,Txs_pure]) ho f⟩
end
theorem not_fault3 {es:List (List D)}:¬FaultOb (.row 3 es):=by
 rintro⟨fs,e⟩
 injection e with e
 cases e
section
variable {n : Nat}
theorem Check22_d {nu mi:Int} {l:List (ByteArray×ByteArray)} {lx:Bool} (hl:l.length<=1048576) (hz:∀x∈l,x.1.size<=1048576/\x.2.size<=1048576) (hn:1048700<=n):
  WO (dcall E (n+1) 47 [.agg [.int .i64 nu,.sl 2 (l.map encLk) lx,.int .i64 mi]] []) λd T=>∃fs,GL 2 encF T d fs/\fs.length<=400/\∀f∈fs,f.2.size<=30:=by
 refine wo_dcall Tryz.func47 rfl (by decide) rfl 101 rfl (λa hal ha=>?_)
 have h0:a[0]?=some _:=ha 0 (by simp)
 clear ha
 have hnf:¬FaultOb (.row 3 [[.int .i64 nu,.sl 2 (l.map encLk) lx,.int .i64 mi]]):=not_fault3
 obtain⟨S0,hS0⟩:∃S0,S0=[Ob.row 3 [[.int .i64 nu,.sl 2 (l.map encLk) lx,.int .i64 mi]]]:=⟨_,rfl⟩
 have g0:S0[0]?=some (.row 3 [[.int .i64 nu,.sl 2 (l.map encLk) lx,.int .i64 mi]]):=by rw[hS0];rfl
 refine wc_scut (λa V=>V=S0/\a.length=101/\a[1]?=some (.loc 0 0 0)) ?_ ?_
 ·simp only[push_cast,hal,h0,↓WX,simprocAttr]
  exact hS0.symm
 rintro a V ⟨rfl,hal,h1⟩
 refine wc_scut (λa W=>W=V/\a.length=101/\a[1]?=some (.loc 0 0 0)/\a[3]?=some (.nils)) ?_ ?_
 ·simp only[push_cast,hal,h1,↓WX,simprocAttr]
 rintro a W ⟨rfl,hal,h1,h3⟩
 refine wc_scut (λa V'=>(KeepF W V'/\FS V' a[3]? 1 30)/\a.length=101/\a[1]?=some (.loc 0 0 0)) ?_ ?_
 ·obtain⟨d1,T1,fs1,p1,q1,g1,l1,z1,k1⟩:=app_s (T:=W) (d:=.nils) (fs:=[]) (z:=30) GL.nil (by simp) (λf h=>by cases h) true 2 (ByteArray.mk #[110,117,109,98,101,114]) (by decide)
  replace p1:=p1 rfl
  by_cases c1:nu<1
  ·simp only[push_cast,hal,h1,h3,g0,c1,p1,FS,↓WX,simprocAttr]
   exact⟨k1,_,_,rfl,g1,by simpa using l1,z1⟩
  by_cases c2:9999<nu
  ·simp only[push_cast,Zx,hal,h1,h3,g0,c1,c2,p1,FS,↓WX,simprocAttr]
   exact⟨k1,_,_,rfl,g1,by simpa using l1,z1⟩
  simp only[push_cast,Zx,hal,h1,h3,g0,c1,c2,FS,↓WX,simprocAttr]
  exact⟨KeepF.refl,_,[],rfl,GL.nil,by simp,λf h=>by cases h⟩
 rintro a V1 ⟨⟨k1,d1,fs1,h3,g1,l1,z1⟩,hal,h1⟩
 have v1:=k1 _ _ hnf g0
 refine wc_scut (λa V'=>(KeepF V1 V'/\FS V' a[3]? 2 30)/\a.length=101/\a[1]?=some (.loc 0 0 0)) ?_ ?_
 ·obtain⟨d2,T2,fs2,p2,q2,g2,l2,z2,k2⟩:=app_s g1 (by omega) z1 true 4 (ByteArray.mk #[108,105,110,107,115]) (by decide)
  replace p2:=p2 rfl
  by_cases c1:(128:Int)<l.length
  ·simp only[push_cast,Zx,hal,h1,h3,v1,c1,p2,FS,↓WX,simprocAttr]
   exact⟨k2,_,_,rfl,g2,by omega,z2⟩
  simp only[push_cast,Zx,hal,h1,h3,v1,c1,FS,↓WX,simprocAttr]
  exact⟨KeepF.refl,_,_,rfl,g1,by omega,z1⟩
 rintro a V2 ⟨⟨k2,d2,fs2,h3,g2,l2,z2⟩,hal,h1⟩
 have v2:=k2 _ _ hnf v1
 refine wc_scut (λa V'=>(KeepF V2 V'/\FS V' a[3]? 399 30)/\a.length=101/\a[1]?=some (.loc 0 0 0)) ?_ ?_
 ·simp only[push_cast,↓WX,simprocAttr]
  by_cases cb:l.length<=128
  case neg=>
   have cb':¬(l.length:Int)<=128:=by omega
   have cb2:(0:Int)<l.length:=by omega
   refine wl_loop (λi a V'=>(i=0/\KeepF V2 V'/\FS V' a[3]? 399 30)/\a.length=101/\a[1]?=some (.loc 0 0 0)/\a[4]?=some (.int .i64 i)) 0 ?_ (by omega) ?_
   ·simp only[push_cast,hal,h1,h3,FS,simprocAttr,WY]
    exact⟨KeepF.refl,_,_,rfl,g2,by omega,z2⟩
   rintro i a V' hi ⟨⟨rfl,k3,d3,fs3,h3,g3,l3,z3⟩,hal,h1,h4⟩
   have v3:=k3 _ _ hnf v2
   simp only[push_cast,hal,h1,h3,h4,v3,cb',cb2,FS,↓WX,simprocAttr,WY]
   exact⟨k3,_,_,rfl,g3,l3,z3⟩
  have cb':(l.length:Int)<=128:=by omega
  refine wl_loop (λi a V'=>(KeepF V2 V'/\FS V' a[3]? (2+3*i) 30)/\a.length=101/\a[1]?=some (.loc 0 0 0)/\a[4]?=some (.int .i64 i)) l.length ?_ (by omega) ?_
  ·simp only[push_cast,hal,h1,h3,FS,simprocAttr,WY]
   exact⟨KeepF.refl,_,_,rfl,g2,by omega,z2⟩
  rintro i a T hi ⟨⟨k3,d,fs,h3,hg,hfl,hfz⟩,hal,h1,h4⟩
  have v3:=k3 _ _ hnf v2
  rcases Yf hi with hlt |rfl
  case inr=>
   simp only[push_cast,hal,h1,h3,h4,v3,FS,↓WX,simprocAttr,WY]
   exact⟨k3,_,_,rfl,hg,by omega,hfz⟩
  obtain⟨x,hx⟩:∃x,l[i]?=some x:=⟨l[i],by simp⟩
  have hxb:=hz x (Yg hx)
  have hltc:(i:Int)<l.length:=by omega
  have hne:¬i=l.length:=by omega
  obtain⟨q,hq,cq⟩:=Wb.rdecW (n:=n) (i:=i) (by omega) (by omega)
  have hsz:linkT.size=5:=rfl
  have mq:=mx_of (a:=linkT) (b:=q) (by omega)
  have hat:(linkT++q).size<=30:=by rw[ba_len];omega
  unfold linkT at mq
  have ca1:=λst S=>rAirport_c (n:=n) (s:=x.1) (by omega) (by omega) st S
  have ca2:=λst S=>rAirport_c (n:=n) (s:=x.2) (by omega) (by omega) st S
  generalize lettS x.1 3=b1 at*
  generalize lettS x.2 3=b2 at*
  obtain⟨vl,cl⟩:=Link22_c (n:=n) (l:=l.take i) (lx:=false) (by rw[Zn];omega) (by omega) x.1 x.2
  rw[List.map_take]at cl
  obtain⟨S1,hS1⟩:∃S1,S1=T++[Ob.row 2 [[.str x.1,.str x.2]]]:=⟨_,rfl⟩
  have k4:KeepF V2 S1:=k3.trans (by rw[hS1];exact KeepF.push)
  have hg1:GL 2 encF S1 d fs:=by rw[hS1];exact hg.push _
  have e1:S1[T.length]?=some (.row 2 [[.str x.1,.str x.2]]):=by rw[hS1];exact get_end
  refine wc_scut (λa V=>V=T/\a.length=101/\a[1]?=some (.loc 0 0 0)/\a[3]?=some (d)/\a[4]?=some (.int .i64 i)) ?_ ?_
  ·simp only[push_cast,hal,h1,h3,h4,v3,hltc,cb',↓WX,simprocAttr]
  rintro a V ⟨rfl,hal,h1,h3,h4⟩
  rw[wc_seq,wc_block]
  refine wc_scut (λa W=>W=S1/\a.length=101/\a[1]?=some (.loc 0 0 0)/\a[3]?=some (d)/\a[4]?=some (.int .i64 i)/\a[5]?=some (.loc V.length 0 0)) ?_ ?_
  ·simp only[push_cast,hal,h1,h3,h4,v3,hx,set_end,get_end,↓WX,simprocAttr]
   exact hS1.symm
  rintro a W ⟨rfl,hal,h1,h3,h4,h5⟩
  have w3:=k4 _ _ hnf v2
  refine wc_scut (λa X=>X=W/\a.length=101/\a[1]?=some (.loc 0 0 0)/\a[3]?=some (d)/\a[4]?=some (.int .i64 i)/\a[5]?=some (.loc V.length 0 0)/\a[6]?=some (.str (linkT++q))) ?_ ?_
  ·unfold linkT
   simp only[push_cast,Zx,hal,h1,h3,h4,h5,cq,mq,↓WX,simprocAttr]
  rintro a X ⟨rfl,hal,h1,h3,h4,h5,h6⟩
  generalize linkT++q=at0 at*
  refine wc_scut (λa V'=>(KeepF X V'/\FS V' a[3]? (2+3*i+1) 30)/\a.length=101/\a[1]?=some (.loc 0 0 0)/\a[4]?=some (.int .i64 i)/\a[5]?=some (.loc V.length 0 0)/\a[6]?=some (.str at0)) ?_ ?_
  ·obtain⟨d5,T5,fs5,p5,q5,g5,l5,z5,k5⟩:=app_s hg1 (by omega) hfz true 5 at0 hat
   replace p5:=p5 rfl
   cases b1
   ·simp only[push_cast,hal,h1,h3,h4,h5,h6,e1,ca1,p5,dUn,FS,↓WX,simprocAttr,WY]
    exact⟨k5,_,_,rfl,g5,by omega,z5⟩
   cases b2
   ·simp only[push_cast,hal,h1,h3,h4,h5,h6,e1,ca1,ca2,p5,dUn,FS,↓WX,simprocAttr,WY]
    exact⟨k5,_,_,rfl,g5,by omega,z5⟩
   simp only[push_cast,hal,h1,h3,h4,h5,h6,e1,ca1,ca2,dUn,FS,↓WX,simprocAttr,WY]
   exact⟨KeepF.refl,_,_,rfl,hg1,by omega,hfz⟩
  rintro a V5 ⟨⟨k5,d5,fs5,h3,g5,l5,z5⟩,hal,h1,h4,h5,h6⟩
  have e5:=k5 _ _ not_fault2 e1
  refine wc_scut (λa V'=>(KeepF V5 V'/\FS V' a[3]? (2+3*i+2) 30)/\a.length=101/\a[1]?=some (.loc 0 0 0)/\a[4]?=some (.int .i64 i)/\a[5]?=some (.loc V.length 0 0)/\a[6]?=some (.str at0)) ?_ ?_
  ·obtain⟨d6,T6,fs6,p6,q6,g6,l6,z6,k6⟩:=app_s g5 (by omega) z5 true 2 at0 hat
   replace p6:=p6 rfl
   by_cases qe:x.1=x.2
   ·simp only[push_cast,hal,h1,h3,h4,h5,h6,e5,qe,str_eq,p6,FS,↓WX,simprocAttr]
    exact⟨k6,_,_,rfl,g6,by omega,z6⟩
   simp only[push_cast,hal,h1,h3,h4,h5,h6,e5,qe,str_eq,FS,↓WX,simprocAttr]
   exact⟨KeepF.refl,_,_,rfl,g5,by omega,z5⟩
  rintro a V6 ⟨⟨k6,d6,fs6,h3,g6,l6,z6⟩,hal,h1,h4,h5,h6⟩
  have e6:=k6 _ _ not_fault2 e5
  have kk:KeepF V2 V6:=(k4.trans k5).trans k6
  have w6:=kk _ _ hnf v2
  obtain⟨d7,T7,fs7,p7,q7,g7,l7,z7,k7⟩:=app_s g6 (by omega) z6 true 6 at0 hat
  replace p7:=p7 rfl
  by_cases c7:0<=vl
  ·simp(maxSteps:=1000000)(disch:=omega)only[push_cast,hal,h1,h3,h4,h5,h6,w6,e6,hlt,hi,hne,cl,c7,p7,Xb,and_self,Nat.sub_zero,List.drop_zero,decide_false,Bool.and_false,wrap_ok,Int.natCast_add,Int.natCast_one,FS,↓WX,simprocAttr]
   exact⟨kk.trans k7,_,_,rfl,g7,by omega,z7⟩
  ·simp(maxSteps:=1000000)(disch:=omega)only[push_cast,hal,h1,h3,h4,h5,w6,e6,hlt,hi,hne,cl,c7,Xb,and_self,Nat.sub_zero,List.drop_zero,decide_false,Bool.and_false,wrap_ok,Int.natCast_add,Int.natCast_one,FS,↓WX,simprocAttr]
   exact⟨kk,_,_,rfl,g6,by omega,z6⟩
 rintro a V3 ⟨⟨k3,d3,fs3,h3,g3,l3,z3⟩,hal,h1⟩
 have v3:=k3 _ _ hnf v2
 obtain⟨d4,T4,fs4,p4,q4,g4,l4,z4,k4⟩:=app_s g3 (by omega) z3 true 2 (ByteArray.mk #[109,105,108,101,115]) (by decide)
 replace p4:=p4 rfl
 by_cases c1:mi<0
 ·simp only[push_cast,hal,h1,h3,v3,c1,p4,Tryz.f47,↓WX,simprocAttr]
  exact⟨_,g4,by omega,z4⟩
 by_cases c2:99999<mi
 ·simp only[push_cast,Zx,hal,h1,h3,v3,c1,c2,p4,Tryz.f47,↓WX,simprocAttr]
  exact⟨_,g4,by omega,z4⟩
 simp only[push_cast,Zx,hal,h1,h3,v3,c1,c2,Tryz.f47,↓WX,simprocAttr]
 exact⟨_,g3,by omega,z3⟩
theorem Check22_c {nu mi:Int} {l:List (ByteArray×ByteArray)} {lx:Bool} (hl:l.length<=1048576) (hz:∀x∈l,x.1.size<=1048576/\x.2.size<=1048576) (hn:1048701<=n):∃d,FR d 400 30/\∀st S,callD E (dcall E n) st S 47 [.agg [.int .i64 nu,.sl 2 (l.map encLk) lx,.int .i64 mi]]=some (d,S):=by
 obtain⟨m,rfl⟩:∃m,n=m+1:=⟨n-1,by omega⟩
 obtain⟨d,T,ho,fs,hg,h1,h2⟩:=Check22_d (n:=m) (nu:=nu) (mi:=mi) (lx:=lx) hl hz (by omega)
 obtain⟨d',f,hf⟩:=GL_fz hg
 exact⟨d',⟨fs,hf,h1,h2⟩,λst S=>callD_pure rfl (by simp[pureL_cons,pureL_nil,D.pure,encLk_pure]) ho f⟩
end
end Go.Proofs.YtaklebjoenophaaGreat.Dm
