/-
  The pairs of a journey: the reference, exactly.
  Whether fares combine: the reference, exactly.
-/
import Derived.Test.YtaklebjoenophaaGreatZg
set_option maxHeartbeats 64000000
set_option maxRecDepth 100000
set_option linter.unusedSimpArgs false
set_option linter.unusedVariables false
namespace Go.Proofs.YtaklebjoenophaaGreat.Dm
open Go Gw
section
variable {α : Type} {sz : Nat} {enc : α -> List D} {S T : List Ob} {d : D} {l : List α}
theorem LQ.pure0 (h:LQ sz enc S d l) (hp:d.pure=true):FLs sz enc d l:=by
 rcases h with h | ⟨x,h,-⟩ | ⟨k,rfl,-⟩
 ·exact .inl h
 ·exact .inr ⟨x,h⟩
 ·cases hp
theorem obs_g {n:Nat} {f:FuncId} {args:List D} {v:D} (hm:E.mode f=.obs) (hv:v.pure=true) (h:∀S',(Yp args=true∨S'=S)->WO (Yb E n f args S') λr T=>r=v/\∃J,T=S'++J):∀st,Yi E (Yb E n) st S f args=some (v,S):=by
 intro st
 by_cases hp:Yp args=true
 ·obtain⟨_,_,ho,rfl,J,rfl⟩:=h [] (.inl hp)
  exact callD_obsP hm hp ho (Yy hv)
 ·obtain⟨_,_,ho,rfl,J,rfl⟩:=h S (.inr rfl)
  exact callD_obsJ hm (by simpa using hp) ho hv
theorem extS_pre (h:ExtS S T):∃J,T=S++J:=by
 refine⟨T.drop S.length,?_⟩
 apply List.ext_getElem?
 intro i
 by_cases e:i<S.length
 ·rw[Ut e,h i S[i] (Uh e),Uh e]
 ·rw[Vh (by omega),List.getElem?_drop]
  congr 1
  omega
end
theorem prtF_bound {t:Trf} {ps:List (Int×Int)} {a:Far}:∀ {l:List Prt} {k:Nat},prtF t ps a k l<0∨((k:Int)<=prtF t ps a k l/\prtF t ps a k l<k+l.length)
 | [],k=>.inl (by unfold prtF;omega)
 |y::ys,k=>by
  unfold prtF
  split
  ·right
   rw[Uu]
   omega
  ·rcases prtF_bound (t:=t) (ps:=ps) (a:=a) (l:=ys) (k:=k+1) with h |h
   ·exact .inl h
   ·right
    rw[Uu]
    omega
section
variable {n : Nat}
theorem partner26_d {S:List Ob} (t:Trf) {d e:D} {l:List Prt} {ps:List (Int×Int)} (h:LQ 4 Prt.enc S d l) (g:LQ 2 Xa S e ps) (hl:l.length<=1000) (hps:ps.length<=1000) (hk:∀x∈l,knoF t x=true) {i:Nat} {x:Prt} (hx:l[i]?=some x) (hn:2010<=n):
  WO (Yb E (n+1) 97 [.agg t.enc,d,e,.int .i64 i] S) λr T=>r=.int .i64 (prtF t ps (farF t x) (i+1) (l.drop (i+1)))/\∃J,T=S++J:=by
 have hy:=lq_len Tryz.underlying37 h
 simp only[push_cast]at hy
 have hil:i<l.length:=(Kr.1 hx).1
 obtain⟨fx1,fx2,fx3⟩:=knoF_far (hk x (Kx hx))
 have fx1':(0<=x.fa)=True:=eq_true fx1
 obtain⟨q,hq⟩:∃q,q=prtF t ps (farF t x) (i+1) (l.drop (i+1)):=⟨_,rfl⟩
 rw[<-hq]
 generalize farF t x=fx at*
 obtain⟨R0,hR0⟩:∃R0,R0=Ob.row 4 [t.enc]:=⟨_,rfl⟩
 have cp:=λj:Nat=>paired26_x (n:=n) (g.ext (Jx (J:=[R0]))) hps (j:Int) (by omega)
 have cr:=λb=>returns26_x (n:=n) fx b (by omega)
 simp only[Trf.enc,Far.enc]at cr hR0 ⊢
 refine Ye Tryz.func97 rfl (by decide) rfl 44 rfl (λa hal ha=>?_)
 have h0:a[0]?=some (.agg [.sl 9 (t.fares.map Far.enc) t.fx,.sl 15 (t.rules.map Rul.enc) t.rx,.sl 3 (t.rous.map Rou.enc) t.ox,.sl 7 (t.taxes.map Tx.enc) t.tx]):=ha 0 (by simp)
 have h1:a[1]?=some (d):=ha 1 (by simp)
 have h2:a[2]?=some (e):=ha 2 (by simp)
 have h3:a[3]?=some (.int .i64 i):=ha 3 (by simp)
 clear ha
 simp(maxSteps:=1000000)(disch:=omega)only[push_cast,hal,h0,h3,Yf,↓WX,simprocAttr]
 refine Yk (λj a T=>(T=S++[R0]/\∃K:Nat,K=i+1+j/\a[9]?=some (.int .i64 K)/\q=prtF t ps fx K (l.drop K))/\a.length=44/\a[1]?=some (d)/\a[2]?=some (e)/\a[3]?=some (.int .i64 i)/\a[4]?=some (.loc S.length 0 0)) (l.length-(i+1)) ?_ (by omega) ?_
 ·simp(maxSteps:=1000000)(disch:=omega)only[push_cast,hal,h1,h2,h3,hR0,simprocAttr]
  exact⟨i+1,rfl,by push_cast<;>rfl,hq⟩
 clear hq
 rintro j a T hj ⟨⟨rfl,K,hK,h9,e0⟩,hal,h1,h2,h3,h4⟩
 have gR:(S++[R0])[S.length]?=some (Ob.row 4 [[.sl 9 (t.fares.map Far.enc) t.fx,.sl 15 (t.rules.map Rul.enc) t.rx,.sl 3 (t.rous.map Rou.enc) t.ox,.sl 7 (t.taxes.map Tx.enc) t.tx]]):=by rw[hR0];exact Yl
 by_cases hlt:K<l.length
 case neg=>
  obtain rfl:K=l.length:=by omega
  rw[Vj,prtF]at e0
  subst e0
  simp(maxSteps:=1000000)(disch:=omega)only[push_cast,hal,h1,h9,hy,Int.lt_irrefl,Tryz.f97,↓WX,simprocAttr]
  exact⟨_,rfl⟩
 have hltc:(K:Int)<l.length:=by omega
 obtain⟨y,hyK⟩:∃y,l[K]?=some y:=⟨l[K],by simp⟩
 obtain⟨fy1,fy2,fy3⟩:=knoF_far (hk y (Kx hyK))
 have fy1':(0<=y.fa)=True:=eq_true fy1
 rw[Yu hyK,prtF]at e0
 have cp:=cp K
 have cr:=cr (farF t y)
 generalize farF t y=fy at*
 generalize prdF ps K=bp at*
 generalize rtnF fx fy=br at*
 have hj1:K<l.length->j<l.length-(i+1):=λ_=>by omega
 rcases h with ⟨-,rfl⟩ | ⟨lx,rfl,hk0⟩ | ⟨kk,rfl,hk0⟩
 ·cases hyK
 all_goals
  cases bp
  ·cases br
   ·simp only[Bool.not_false,Bool.true_and,Ui,if_false]at e0
    simp(maxSteps:=1000000)(disch:=omega)only[push_cast,hal,h1,h2,h3,h4,h9,hk0,gR,hltc,hil,hx,hyK,cp,cr,fx1',fx3,fy1',fy3,Bool.not_false,Prt.enc,Far.enc,Yf,↓WX,simprocAttr]
    exact⟨by omega,K+1,by omega,by push_cast<;>rfl,e0⟩
   ·simp only[Bool.not_false,Bool.true_and,if_true]at e0
    subst e0
    simp(maxSteps:=1000000)(disch:=omega)only[push_cast,hal,h1,h2,h3,h4,h9,hk0,gR,hltc,hil,hx,hyK,cp,cr,fx1',fx3,fy1',fy3,Bool.not_false,Prt.enc,Far.enc,Tryz.f97,↓WX,simprocAttr]
    exact⟨_,rfl⟩
  ·simp only[Bool.not_true,Bool.false_and,Ui,if_false]at e0
   simp(maxSteps:=1000000)(disch:=omega)only[push_cast,hal,h1,h2,h3,h4,h9,hltc,cp,Bool.not_true,Yf,↓WX,simprocAttr]
   exact⟨by omega,K+1,by omega,by push_cast<;>rfl,e0⟩
theorem partner26_x {S:List Ob} (t:Trf) {d e:D} {l:List Prt} {ps:List (Int×Int)} (h:LQ 4 Prt.enc S d l) (g:LQ 2 Xa S e ps) (hl:l.length<=1000) (hps:ps.length<=1000) (hk:∀x∈l,knoF t x=true) {i:Nat} {x:Prt} (hx:l[i]?=some x) (hn:2011<=n):∀st,Yi E (Yb E n) st S 97 [.agg t.enc,d,e,.int .i64 i]=some (.int .i64 (prtF t ps (farF t x) (i+1) (l.drop (i+1))),S):=by
 obtain⟨m,rfl⟩:∃m,n=m+1:=⟨n-1,by omega⟩
 refine obs_g rfl rfl λS' hS=>?_
 rcases hS with hp |rfl
 ·simp only[Yc,Yg,D.pure,Ua,Kv]at hp
  exact partner26_d t (h.pure0 hp.2.1).lq (g.pure0 hp.2.2).lq hl hps hk hx (by omega)
 ·exact partner26_d t h g hl hps hk hx (by omega)
theorem Pairs26_d {S:List Ob} (t:Trf) {d:D} {l:List Prt} (h:LQ 4 Prt.enc S d l) (hl:l.length<=900) (hn:3000<=n):
  WO (Yb E (n+1) 37 [.agg t.enc,d] S) λr T=>ExtS S T/\∃d',r=.tup [d',.int .i64 (Xq t l).2]/\GL 2 Xa T d' (Xq t l).1:=by
 have hy:=lq_len Tryz.underlying37 h
 simp only[push_cast]at hy
 obtain⟨R0,hR0⟩:∃R0,R0=Ob.row 4 [t.enc]:=⟨_,rfl⟩
 have ck:=known26_x (n:=n) t (h.ext (Jx (J:=[R0]))) (by omega) (by omega)
 unfold Xq
 have hk:l.all (knoF t)=true->∀x∈l,knoF t x=true:=λh=>List.all_eq_true.1 h
 have ap:∀ {T:List Ob} {d:D} {cs:List (Int×Int)},GL 2 Xa T d cs->cs.length<=100000->∀s:Int×Int,∃S',Zb Tryz.prog T 38 38 d (.sl 2 [[.int .i64 s.1,.int .i64 s.2]] true)=some (.os T.length 0 (cs.length+1) false,S')/\GL 2 Xa S' (.os T.length 0 (cs.length+1) false) (cs++[s])/\S'.length=T.length+1/\(∀k o,(∀n,d=.os k 0 n false->False)->T[k]?=some o->S'[k]?=some o):=λh hc s=>by
  obtain⟨S',a1,a2,a3,a4,-⟩:=app_gl (t:=38) (e:=91) (z:=.agg [.int .i64 0,.int .i64 0]) (n:=1) (by kernel_rfl) (by kernel_rfl) (by kernel_rfl) rfl (Nat.le_of_ble_eq_true (by kernel_rfl)) h hc s
  exact⟨S',a1,a2,a3,a4⟩
 generalize l.all (knoF t)=kb at*
 obtain⟨q,hq⟩:∃q,q=prsF t 0 l []:=⟨_,rfl⟩
 rw[<-hq]
 have cpd:=λ(T:List Ob) (d':D) (ps:List (Int×Int)) (hg:GL 2 Xa T d' ps) (hps:ps.length<=1000) (i:Nat)=>paired26_x (n:=n) hg.lq hps (i:Int) (by omega)
 have cpr:=λ(T:List Ob) (d':D) (ps:List (Int×Int)) (hx:ExtS S T) (hg:GL 2 Xa T d' ps) (hps:ps.length<=1000) (hkn:∀x∈l,knoF t x=true) (i:Nat) (x:Prt) (hxi:l[i]?=some x)=>partner26_x (n:=n) t (h.ext hx) hg.lq (by omega) hps hkn hxi (by omega)
 simp only[Trf.enc]at ck cpr hR0 ⊢
 refine Ye Tryz.func37 rfl (by decide) rfl 49 rfl (λa hal ha=>?_)
 obtain⟨h0,h1⟩:=aQ2 ha
 clear ha
 refine Ya (λa V=>V=S++[R0]/\gQ a 49 (a[5]?=some (.int .i64 0)) [(1,d),(2,.loc S.length 0 0),(4,.nils)]) ?_ ?_
 ·simp only[push_cast,hal,h0,h1,hR0,↓WX,simprocAttr]
 rintro a V ⟨rfl,hal,h1,h2,h4,h5⟩
 have gR:(S++[R0])[S.length]?=some (Ob.row 4 [[.sl 9 (t.fares.map Far.enc) t.fx,.sl 15 (t.rules.map Rul.enc) t.rx,.sl 3 (t.rous.map Rou.enc) t.ox,.sl 7 (t.taxes.map Tx.enc) t.tx]]):=by rw[hR0];exact Yl
 have hR1:S.length<(S++[R0]).length:=by simp
 have hXS:ExtS S (S++[R0]):=Jx
 generalize S++[R0]=V0 at*
 cases kb
 ·simp only[push_cast,hal,h1,h2,gR,ck,Ui,Tryz.f37,↓WX,simprocAttr,WY]
  exact⟨hXS,_,rfl,GL.nil⟩
 simp only[if_true]
 have hk:=hk rfl
 refine Ya (λa V=>V=V0/\gQ a 49 (a[5]?=some (.int .i64 0)) [(1,d),(2,.loc S.length 0 0),(4,.nils)]) ?_ ?_
 ·simp only[push_cast,hal,h1,h2,h4,h5,gR,ck,↓WX,simprocAttr,WY]
 rintro a V ⟨rfl,hal,h1,h2,h4,h5⟩
 refine Ya (λa W=>W=V/\gQ a 49 (a[6]?=some (.nils)) [(1,d),(2,.loc S.length 0 0),(4,.nils),(5,.int .i64 0)]) ?_ ?_
 ·simp only[push_cast,hal,h1,h2,h4,h5,↓WX,simprocAttr]
 rintro a W ⟨rfl,hal,h1,h2,h4,h5,h6⟩
 refine Za (λa T=>(ExtS W T/\∃dp ps,a[6]?=some dp/\GL 2 Xa T dp ps/\q=some ps)/\gQ a 49 (a[2]?=some (.loc S.length 0 0)) [(1,d)]) ?_ ?_
 ·simp only[push_cast,↓WX,simprocAttr]
  refine Yk (λi a T=>(ExtS W T/\∃dp ps,a[6]?=some dp/\GL 2 Xa T dp ps/\ps.length<=i/\q=prsF t i (l.drop i) ps/\∀k n,dp=.os k 0 n false->W.length<=k)/\a.length=49/\a[1]?=some (d)/\a[2]?=some (.loc S.length 0 0)/\a[7]?=some (.int .i64 i)) l.length ?_ (by omega) ?_
  ·simp only[push_cast,hal,h1,h2,h6,simprocAttr,WY]
   exact⟨λ_ _ h=>h,_,[],rfl,GL.nil,Uk _,hq,λk n h=>by cases h⟩
  clear hq ck
  rintro i a T hi ⟨⟨hXT,dp,ps,h6,hg,hpl,e0,hdk⟩,hal,h1,h2,h7⟩
  have gT:=hXT _ _ gR
  rcases Kw hi with hlt |rfl
  case inr=>
   rw[Vj,prsF]at e0
   simp only[push_cast,hal,h1,h2,h6,h7,hy,↓WX,simprocAttr,WY]
   exact⟨hXT,_,_,rfl,hg,e0⟩
  have hltc:(i:Int)<l.length:=by omega
  obtain⟨x,hx⟩:∃x,l[i]?=some x:=⟨l[i],by simp⟩
  obtain⟨fx1,fx2,fx3⟩:=knoF_far (hk x (Kx hx))
  have fx1':(0<=x.fa)=True:=eq_true fx1
  have cpd:=cpd T dp ps hg (by omega) i
  have cpr:=cpr T dp ps (λ_ _ h=>hXT _ _ (hXS _ _ h)) hg (by omega) hk i x hx
  rw[Yu hx,prsF]at e0
  have hpb:=prtF_bound (t:=t) (ps:=ps) (a:=farF t x) (l:=l.drop (i+1)) (k:=i+1)
  rw[Vf]at hpb
  generalize prtF t ps (farF t x) (i+1) (l.drop (i+1))=pk at*
  generalize farF t x=fx at*
  generalize prdF ps i=bp at*
  obtain⟨S',a1,a2,a3,a4⟩:=ap hg (by omega) ((i:Int),pk)
  have hT0:W.length<=T.length:=by
   obtain⟨J,rfl⟩:=extS_pre hXT
   simp
  have hX2:ExtS W S':=λk o hko=>a4 k o (λn hdn=>by
   have:=hdk k n hdn
   have:=(Kr.1 hko).1
   omega) (hXT k o hko)
  have hcase:(fx.rnd=false∨bp=true)∨(fx.rnd=true/\bp=false):=by
   cases fx.rnd <;> cases bp <;> simp
  have hyT:∀T,_:=hy
  rcases h with ⟨-,rfl⟩ | ⟨lx,rfl,hk0⟩ | ⟨kk,rfl,hk0⟩
  ·cases hx
  case' inr.inr=>
   have hk0:T[kk]?=some (.row 4 (l.map Prt.enc)):=by
    have:=hk0 []
    rw[Ur]at this
    exact hXT _ _ (hXS _ _ this)
  all_goals
   cases hr:fx.rnd
   ·simp only[hr,Bool.true_or,if_true,WY]at e0
    simp(disch:=omega)only[push_cast,hal,h1,h2,h6,h7,hk0,gT,hlt,hltc,hx,fx1',fx3,hr,Prt.enc,Far.enc,Yf,↓WX,simprocAttr,WY]
    exact⟨hXT,_,_,rfl,hg,by omega,e0,hdk⟩
   cases bp
   ·simp only[hr,Bool.false_or,Ui,if_false,WY]at e0
    by_cases c:pk<0
    ·rw[if_pos c]at e0
     subst e0
     simp only[push_cast,hal,h1,h2,h6,h7,hk0,gT,hltc,hx,fx1',fx3,hr,cpd,cpr,c,Prt.enc,Far.enc,Tryz.f37,↓WX,simprocAttr,WY]
     exact⟨λk o ho=>hXT _ _ (hXS _ _ ho),_,rfl,GL.nil⟩
    ·rw[if_neg c]at e0
     simp(disch:=omega)only[push_cast,hal,h1,h2,h6,h7,hk0,gT,hlt,hltc,hx,fx1',fx3,hr,cpd,cpr,c,a1,Prt.enc,Far.enc,Yf,↓WX,simprocAttr,WY]
     exact⟨hX2,_,_,rfl,a2,by rw[Ku,List.length_singleton];omega,e0,λk n hdn=>by obtain⟨rfl,-⟩:=D.os.inj hdn;exact hT0⟩
   ·simp only[hr,Bool.or_true,if_true]at e0
    simp(disch:=omega)only[push_cast,hal,h1,h2,h6,h7,hk0,gT,hlt,hltc,hx,fx1',fx3,hr,cpd,Prt.enc,Far.enc,Yf,↓WX,simprocAttr,WY]
    exact⟨hXT,_,_,rfl,hg,by omega,e0,hdk⟩
 rintro a T ⟨⟨hXT,dp,ps,h6,hg,rfl⟩,hal,h1,h2⟩
 simp only[push_cast,hal,h6,Tryz.f37,↓WX,simprocAttr]
 exact⟨λk o ho=>hXT _ _ (hXS _ _ ho),_,rfl,hg⟩
end
def rulF (t:Trf) (x:Prt):Option Rul:=t.rules.find? λr=>decide (r.num=(farF t x).rul)
def mxF {α:Type} (f:α->α->Bool):List α->List α->Bool
 |_,[]=>true
 |ys,x::xs=>(ys.all λy=>f x y) && mxF f (ys++[x]) xs
def mixedF (t:Trf) (l:List Prt):Int:=if l.all (knoF t)=true then if mxF (λx y=>mix2F (rulF t x) (rulF t y)) [] l=true then 0 else 23 else 19
def dpF (p:Plc) (w:Wnt):Int×Int:=match p.aps.find? λa=>a.code.toList == w.fr.toList with
 |none=>(0,14)
 |some a=>(dayF (locF (some a) w.dep),0)
def zeWnt:Wnt:=⟨ByteArray.mk #[],0,0,ByteArray.mk #[],ByteArray.mk #[],0,0,ByteArray.mk #[]⟩
def wntF (w:List Wnt) (x:Prt):Wnt:=(w[x.fr.toNat]?).getD zeWnt
def styF (p:Plc) (t:Trf) (w:List Wnt) (a b:Prt):Int:=
 if (dpF p (wntF w a)).2=0/\(dpF p (wntF w b)).2=0 then
  if stayR (rulF t a) (dpF p (wntF w a)).1 (dpF p (wntF w b)).1=0 then stayR (rulF t b) (dpF p (wntF w a)).1 (dpF p (wntF w b)).1 else stayR (rulF t a) (dpF p (wntF w a)).1 (dpF p (wntF w b)).1
 else 14
def fstE {α:Type} (f:α->Int):List α->Int
 | []=>0
 |x::xs=>if f x=0 then fstE f xs else f x
def zePrt:Prt:=⟨0,0,0,0⟩
def prtAt (l:List Prt) (i:Int):Prt:=(l[i.toNat]?).getD zePrt
def frOk (w:List Wnt) (x:Prt):Bool:= !(decide (x.fr<0) || decide (x.fr>=w.length))
def staysF (p:Plc) (t:Trf) (w:List Wnt) (l:List Prt):Int:=if l.all (frOk w)=true then if (Xq t l).2=0 then fstE (λq:Int×Int=>styF p t w (prtAt l q.1) (prtAt l q.2)) (Xq t l).1 else (Xq t l).2 else 2
def whF:List Prt->Int->Option Int
 | [],k=>some k
 |x::xs,k=>if (!decide (x.fr=k) || decide (x.to<=k))=true then none else whF xs x.to
def wholeF (w:List Wnt) (l:List Prt):Bool:=match whF l 0 with |some k=>decide ((l.length:Int)>0) && decide (k=w.length) |none=>false
def checkF (p:Plc) (t:Trf) (w:List Wnt) (l:List Prt):Int:=if wholeF w l=true then if (Xq t l).2=0 then if mixedF t l=0 then staysF p t w l else mixedF t l else (Xq t l).2 else 2
theorem prsF_mem {t:Trf}:∀ {l:List Prt} {i:Nat} {ps qs:List (Int×Int)},prsF t i l ps=some qs->(∀q∈ps,0<=q.1/\q.1<i+l.length/\0<=q.2/\q.2<i+l.length)->∀q∈qs,0<=q.1/\q.1<i+l.length/\0<=q.2/\q.2<i+l.length
 | [],i,ps,qs,h,g=>by
  unfold prsF at h
  obtain rfl:=Kz h
  exact g
 |x::xs,i,ps,qs,h,g=>by
  unfold prsF at h
  have e:((i:Int)+((x::xs).length:Nat))=((i+1:Nat):Int)+(xs.length:Nat):=by rw[Uu];omega
  rw[e]at g ⊢
  split at h
  ·exact prsF_mem h g
  ·split at h
   ·cases h
   ·rename_i c
    refine prsF_mem h λq hq=>?_
    rcases List.mem_append.1 hq with hq |hq
    ·exact g q hq
    ·obtain rfl:q=((i:Int),prtF t ps (farF t x) (i+1) xs):=by simpa using hq
     rcases prtF_bound (t:=t) (ps:=ps) (a:=farF t x) (l:=xs) (k:=i+1) with b |b
     ·exact (c b).elim
     ·dsimp only
      omega
theorem pairsF_mem {t:Trf} {l:List Prt}:∀q∈(Xq t l).1,0<=q.1/\q.1<l.length/\0<=q.2/\q.2<l.length:=by
 intro q hq
 unfold Xq at hq
 split at hq
 ·cases e:prsF t 0 l [] with
  |none=>rw[e]at hq;cases hq
  |some ps=>
   rw[e]at hq
   have:=prsF_mem e (λq h=>by cases h) q hq
   simpa using this
 ·cases hq
theorem pairsF_len {t:Trf} {l:List Prt}:(Xq t l).1.length<=l.length:=by
 have key:∀(l:List Prt) (i:Nat) (ps qs:List (Int×Int)),prsF t i l ps=some qs->qs.length<=ps.length+l.length:=by
  intro l
  induction l with
  |nil=>intro i ps qs h;unfold prsF at h;obtain rfl:=Kz h;simp
  |cons x xs ih=>
   intro i ps qs h
   unfold prsF at h
   rw[Uu]
   split at h
   ·have:=ih _ _ _ h;omega
   ·split at h
    ·cases h
    ·have:=ih _ _ _ h
     rw[Ku,List.length_singleton]at this
     omega
 unfold Xq
 split
 ·cases e:prsF t 0 l [] with
  |none=>exact Vt _
  |some ps=>have:=key _ _ _ _ e;simpa using this
 ·exact Vt _
theorem pairsF_kno {t:Trf} {l:List Prt} (h:(Xq t l).2=0):∀x∈l,knoF t x=true:=by
 unfold Xq at h
 split at h
 ·rename_i c
  exact List.all_eq_true.1 c
 ·cases h
section
variable {n : Nat}
theorem Pairs26_x {S:List Ob} (t:Trf) {d:D} {l:List Prt} (h:LQ 4 Prt.enc S d l) (hl:l.length<=900) (hn:3001<=n):∃d' T,Yi E (Yb E n) false S 37 [.agg t.enc,d]=some (.tup [d',.int .i64 (Xq t l).2],T)/\ExtS S T/\LQ 2 Xa T d' (Xq t l).1:=by
 obtain⟨m,rfl⟩:∃m,n=m+1:=⟨n-1,by omega⟩
 by_cases hp:d.pure=true
 ·obtain⟨_,T,ho,hx,d',rfl,hg⟩:=Pairs26_d (n:=m) (S:=[]) t (h.pure0 hp).lq hl (by omega)
  obtain⟨d2,hf,hd⟩:=hg.flsN (Ka _) 37
  refine⟨d2,S,Yd rfl (by simp only[Yc,Yg,D.pure,Ja,hp,Ua]) ho ?_,λ_ _ h=>h,hd.lq⟩
  exact freeze_tup2 hf
 ·obtain⟨_,T,ho,hx,d',rfl,hg⟩:=Pairs26_d (n:=m) t h hl (by omega)
  exact⟨d',T,(Jk rfl (by simp only[Yc,Yg,D.pure,Ja,Ua,WY];simpa using hp)).trans ho,hx,hg.lq⟩
theorem rule26_x (t:Trf) (x:Prt) (hx:knoF t x=true) (hr:t.rules.length<=1048576) (hn:1048590<=n):∀st S,Yi E (Yb E n) st S 145 [.agg t.enc,.agg x.enc]=some (rulD (rulF t x),S):=by
 obtain⟨m,rfl⟩:∃m,n=m+1:=⟨n-1,by omega⟩
 have hp:Yp [.agg t.enc,.agg x.enc]=true:=by simp only[Yc,Yg,D.pure,Ja,Prt_pure,Ua]
 obtain⟨fx1,fx2,fx3⟩:=knoF_far hx
 have fx1':(0<=x.fa)=True:=eq_true fx1
 have hru:=Rule24_x (n:=m) (t.fares.map Far.enc) (t.rous.map Rou.enc) (t.taxes.map Tx.enc) t.fx t.ox t.tx t.rules t.rx (Js _) (Jz _) (Jq _) hr (by omega) (farF t x).rul
 unfold rulF
 generalize farF t x=f at*
 generalize t.rules.find? (λr=>decide (r.num=f.rul))=o at*
 generalize o.isSome=b at hru
 have hpo:=Jl o
 obtain⟨y1,y2,y3,y4,y5,y6,y7,y8,y9,y10,y11,y12,y13,y14,hy,⟨r1,r2,r3,r4,r5,r6,r7⟩,r8,r9,r10,r11,r12,r13,r14⟩:=Jy o
 rw[hy]at hru hpo ⊢
 simp only[D.one]at r1 r2 r3 r4 r5 r6 r7 r8 r9 r10 r11 r12 r13 r14
 simp only[Trf.enc,Prt.enc]at hp ⊢
 have:WO (Yb E (m+1) 145 [.agg [.sl 9 (t.fares.map Far.enc) t.fx,.sl 15 (t.rules.map Rul.enc) t.rx,.sl 3 (t.rous.map Rou.enc) t.ox,.sl 7 (t.taxes.map Tx.enc) t.tx],.agg [.int .i64 x.fr,.int .i64 x.to,.int .i64 x.fa,.int .i64 x.am]] []) λr T=>r=.agg [.int .i64 (numF o),y1,y2,y3,y4,y5,y6,y7,y8,y9,y10,y11,y12,y13,y14]:=by
  refine Ye Tryz.func145 rfl (by decide) rfl 20 rfl (λa hal ha=>?_)
  obtain⟨h0,h1⟩:=aQ2 ha
  clear ha
  simp only[push_cast,hal,h0,h1,fx1',fx3,hru,Far.enc,r1,r2,r3,r4,r5,r6,r7,r8,r9,r10,r11,r12,r13,r14,Tryz.f145,↓WX,simprocAttr]
 obtain⟨_,T,ho,rfl⟩:=this
 exact λst S=>Yd rfl hp ho (Yy hpo)
theorem mxF_all {α:Type} {f:α->α->Bool} {ys:List α} {x:α} (h:∀y∈ys,f x y=true) (xs:List α):mxF f ys (x::xs)=mxF f (ys++[x]) xs:=by
 rw[mxF,List.all_eq_true.2 h,Bool.true_and]
theorem mxF_no {α:Type} {f:α->α->Bool} {ys:List α} {x y:α} (hy:y∈ys) (h:f x y=false) (xs:List α):mxF f ys (x::xs)=false:=by
 rw[mxF]
 have:(ys.all λy=>f x y)=false:=by
  rw[List.all_eq_false]
  exact⟨y,hy,by rw[h];simp⟩
 rw[this,Bool.false_and]
theorem Mixed26_d {S:List Ob} (t:Trf) {d:D} {l:List Prt} (h:LQ 4 Prt.enc S d l) (hl:l.length<=900) (hr:t.rules.length<=1048576) (hcb:∀r∈t.rules,r.comb.length<=1048576) (hn:1048700<=n):
  WO (Yb E (n+1) 91 [.agg t.enc,d] S) λr T=>r=.int .i64 (mixedF t l)/\∃J,T=S++J:=by
 have hy:=lq_len Tryz.underlying37 h
 simp only[push_cast]at hy
 obtain⟨R0,hR0⟩:∃R0,R0=Ob.row 4 [t.enc]:=⟨_,rfl⟩
 have ck:=known26_x (n:=n) t (h.ext (Jx (J:=[R0]))) (by omega) (by omega)
 unfold mixedF
 have hk:l.all (knoF t)=true->∀x∈l,knoF t x=true:=λh=>List.all_eq_true.1 h
 generalize l.all (knoF t)=kb at*
 obtain⟨q,hq⟩:∃q,q=mxF (λx y=>mix2F (rulF t x) (rulF t y)) [] l:=⟨_,rfl⟩
 rw[<-hq]
 have crl:=λx hx=>rule26_x (n:=n) t x hx hr (by omega)
 have cmx:=λx y=>Mix21_x (n:=n) (rulF t x) (rulF t y) (λr hr=>hcb r (List.mem_of_find?_eq_some hr)) (λr hr=>hcb r (List.mem_of_find?_eq_some hr)) (by omega)
 simp only[Trf.enc]at ck crl hR0 ⊢
 refine Ye Tryz.func91 rfl (by decide) rfl 36 rfl (λa hal ha=>?_)
 obtain⟨h0,h1⟩:=aQ2 ha
 clear ha
 refine Ya (λa V=>V=S++[R0]/\gQ a 36 (a[2]?=some (.loc S.length 0 0)) [(1,d)]) ?_ ?_
 ·simp only[push_cast,hal,h0,h1,hR0,↓WX,simprocAttr]
 rintro a V ⟨rfl,hal,h1,h2⟩
 have gR:(S++[R0])[S.length]?=some (Ob.row 4 [[.sl 9 (t.fares.map Far.enc) t.fx,.sl 15 (t.rules.map Rul.enc) t.rx,.sl 3 (t.rous.map Rou.enc) t.ox,.sl 7 (t.taxes.map Tx.enc) t.tx]]):=by rw[hR0];exact Yl
 cases kb
 ·simp only[push_cast,hal,h1,h2,gR,ck,Ui,Tryz.f91,↓WX,simprocAttr,WY]
  exact⟨_,rfl⟩
 simp only[if_true]
 have hk:=hk rfl
 refine Ya (λa V=>V=S++[R0]/\gQ a 36 (a[2]?=some (.loc S.length 0 0)) [(1,d)]) ?_ ?_
 ·simp only[push_cast,hal,h1,h2,gR,ck,↓WX,simprocAttr,WY]
 rintro a V ⟨rfl,hal,h1,h2⟩
 refine Za (λa T=>(T=S++[R0]/\q=true)/\a.length=36/\a[2]?=some (.loc S.length 0 0)) ?_ ?_
 ·simp only[push_cast,↓WX,simprocAttr]
  refine Yk (λi a T=>(T=S++[R0]/\q=mxF (λx y=>mix2F (rulF t x) (rulF t y)) (l.take i) (l.drop i))/\a.length=36/\a[1]?=some (d)/\a[2]?=some (.loc S.length 0 0)/\a[5]?=some (.int .i64 i)) l.length ?_ (by omega) ?_
  ·simp only[push_cast,hal,h1,h2,simprocAttr,WY]
   exact hq
  clear hq ck
  rintro i a T hi ⟨⟨rfl,e0⟩,hal,h1,h2,h5⟩
  rcases Kw hi with hlt |rfl
  case inr=>
   rw[Vj,mxF]at e0
   simp only[push_cast,hal,h1,h2,h5,hy,↓WX,simprocAttr,WY]
   exact e0
  have hltc:(i:Int)<l.length:=by omega
  obtain⟨x,hx⟩:∃x,l[i]?=some x:=⟨l[i],by simp⟩
  have hti:(l.take (i+1))=l.take i++[x]:=by rw[List.take_add_one,hx];rfl
  have crx:=crl x (hk x (Kx hx))
  rw[Yu hx]at e0
  simp only[push_cast,hal,h1,h5,hy,hltc,↓WX,simprocAttr]
  refine Yk (λk a T=>(T=S++[R0]/\∀y∈l.take k,mix2F (rulF t x) (rulF t y)=true)/\a.length=36/\a[1]?=some (d)/\a[2]?=some (.loc S.length 0 0)/\a[5]?=some (.int .i64 i)/\a[6]?=some (.int .i64 k)) i ?_ (by omega) ?_
  ·simp only[push_cast,hal,h1,h2,h5,simprocAttr,WY]
   exact λy hy=>by cases hy
  rintro k a T hik ⟨⟨rfl,e1⟩,hal,h1,h2,h5,h6⟩
  rcases Kw hik with hkt |rfl
  case inr=>
   rw[mxF_all e1,<-hti]at e0
   simp(disch:=omega)only[push_cast,hal,h1,h2,h5,h6,Yf,↓WX,simprocAttr,WY]
   exact⟨by omega,e0⟩
  have hktc:(k:Int)<i:=by omega
  have hkl:k<l.length:=by omega
  have hklc:(k:Int)<l.length:=by omega
  obtain⟨y,hyk⟩:∃y,l[k]?=some y:=⟨l[k],by simp⟩
  have hyt:y∈l.take i:=by
   have:(l.take i)[k]?=some y:=by rw[List.getElem?_take,if_pos hkt];exact hyk
   exact Kx this
  have cry:=crl y (hk y (Kx hyk))
  have cm:=cmx x y
  have hno:mix2F (rulF t x) (rulF t y)=false->mxF (λx y=>mix2F (rulF t x) (rulF t y)) (l.take i) (x::l.drop (i+1))=false:=λh=>mxF_no hyt h _
  have hmx:∀z∈l.take (k+1),z∈l.take k∨z=y:=λz hz=>by
   rw[List.take_add_one,hyk]at hz
   simpa using hz
  have hyes:mix2F (rulF t x) (rulF t y)=true->∀z∈l.take (k+1),mix2F (rulF t x) (rulF t z)=true:=λh z hz=>by
   rcases hmx z hz with hz |rfl
   ·exact e1 z hz
   ·exact h
  generalize mix2F (rulF t x) (rulF t y)=bm at*
  obtain⟨u1,u2,u3,u4,u5,u6,u7,u8,u9,u10,u11,u12,u13,u14,hu,-⟩:=Jy (rulF t x)
  obtain⟨v1,v2,v3,v4,v5,v6,v7,v8,v9,v10,v11,v12,v13,v14,hv,-⟩:=Jy (rulF t y)
  rw[hu]at crx cm
  rw[hv]at cry cm
  simp only[Prt.enc]at crx cry
  rcases h with ⟨-,rfl⟩ | ⟨lx,rfl,hk0⟩ | ⟨kk,rfl,hk0⟩
  ·cases hx
  all_goals
   cases bm
   ·rw[hno rfl]at e0
    subst e0
    simp only[push_cast,hal,h1,h2,h5,h6,hk0,gR,hktc,hklc,hltc,hx,hyk,crx,cry,cm,Ui,Prt.enc,Tryz.f91,↓WX,simprocAttr,WY]
    exact⟨_,rfl⟩
   ·have hyes:=hyes rfl
    simp(disch:=omega)only[push_cast,hal,h1,h2,h5,h6,hk0,gR,hkt,hktc,hklc,hltc,hx,hyk,crx,cry,cm,Prt.enc,Yf,↓WX,simprocAttr,WY]
    exact hyes
 rintro a T ⟨⟨rfl,rfl⟩,hal,h2⟩
 simp only[push_cast,hal,Tryz.f91,↓WX,simprocAttr]
 exact⟨_,rfl⟩
end
end Go.Proofs.YtaklebjoenophaaGreat.Dm
