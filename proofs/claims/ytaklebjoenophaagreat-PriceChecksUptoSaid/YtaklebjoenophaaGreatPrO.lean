/-
  The pairs of a journey: the program, exactly.
  Whether fares combine: the program, exactly.
-/
import Derived.Test.YtaklebjoenophaaGreatPrM
set_option maxHeartbeats 64000000
set_option maxRecDepth 100000
set_option linter.unusedSimpArgs false
set_option linter.unusedVariables false
namespace Go.Proofs.YtaklebjoenophaaGreat.Dm
open Go Gw
def encB (b:Bool):List D:=[.bool b]
theorem mkB {S:List Ob} {n:Nat} (hn:n<=100000):dMakeSlice Tryz.prog S 191 n n=some (.os S.length 0 n false,S++[.row 1 ((List.replicate n false).map encB)]):=by
 have h1:Ki Tryz.prog 191=some 4:=by kernel_rfl
 have h2:Yw Tryz.prog 4=some 1:=by kernel_rfl
 have h3:Ji Tryz.prog 4=some (.bool false):=by kernel_rfl
 have h4:Kl Tryz.prog 4=1:=by kernel_rfl
 unfold dMakeSlice
 rw[h1]
 dsimp only
 rw[h2,h3]
 dsimp only
 rw[h4,if_pos,Int.toNat_natCast]
 ·rw[List.map_replicate]
  rfl
 ·refine⟨by omega,by omega,?_,by omega,rfl,rfl⟩
  have:((1:Nat):Int)*(n:Int)<=140737488355328:=by omega
  exact this
theorem prdF_add {ps:List (Int×Int)} {i k:Int} (j:Int):prdF (ps++[(i,k)]) j=(prdF ps j || (decide (i=j) || decide (k=j))):=by
 unfold prdF
 rw[List.any_append,List.any_cons,List.any_nil,Bool.or_false]
section
variable {n : Nat}
theorem PPairs_d {S:List Ob} (t:Trf) {d:D} {l:List Prt} (h:LR 4 Prt.enc S d l) (hl:l.length<=900) (hn:3000<=n):
  WO (Yb E (n+1) 71 [.agg t.enc,d] S) λr T=>ExtS S T/\∃d',r=.tup [d',.int .i64 (Xq t l).2]/\GL 2 Xa T d' (Xq t l).1:=by
 have hy:=lr_len Tryz.underlying37 h
 simp only[push_cast]at hy
 obtain⟨R0,hR0⟩:∃R0,R0=Ob.row 4 [t.enc]:=⟨_,rfl⟩
 have ck:=Ppriced_x (n:=n) t (h.ext (Jx (J:=[R0]))) (by omega) (by omega)
 unfold Xq
 have hk:l.all (knoF t)=true->∀x∈l,knoF t x=true:=λh=>List.all_eq_true.1 h
 have ap:∀ {T:List Ob} {d:D} {cs:List (Int×Int)},GL 2 Xa T d cs->cs.length<=100000->∀s:Int×Int,∃S',Zb Tryz.prog T 38 38 d (.sl 2 [[.int .i64 s.1,.int .i64 s.2]] true)=some (.os T.length 0 (cs.length+1) false,S')/\GL 2 Xa S' (.os T.length 0 (cs.length+1) false) (cs++[s])/\S'.length=T.length+1/\(∀k o,(∀n,d=.os k 0 n false->False)->T[k]?=some o->S'[k]?=some o):=λh hc s=>by
  obtain⟨S',a1,a2,a3,a4,-⟩:=app_gl (t:=38) (e:=91) (z:=.agg [.int .i64 0,.int .i64 0]) (n:=1) (by kernel_rfl) (by kernel_rfl) (by kernel_rfl) rfl (Nat.le_of_ble_eq_true (by kernel_rfl)) h hc s
  exact⟨S',a1,a2,a3,a4⟩
 generalize l.all (knoF t)=kb at*
 obtain⟨q,hq⟩:∃q,q=prsF t 0 l []:=⟨_,rfl⟩
 rw[<-hq]
 have cbk:=λu v=>Pback_x (n:=n) u v (by omega)
 simp only[Trf.enc,Far.enc]at ck cbk hR0 ⊢
 refine Ye Tryz.func71 rfl (by decide) rfl 84 rfl (λa hal ha=>?_)
 obtain⟨h0,h1⟩:=aQ2 ha
 clear ha
 refine Ya (λa V=>V=S++[R0]/\gQ a 84 (a[2]?=some (.loc S.length 0 0)) [(1,d)]) ?_ ?_
 ·simp only[push_cast,hal,h0,h1,hR0,↓WX,simprocAttr]
 rintro a V ⟨rfl,hal,h1,h2⟩
 have gR:(S++[R0])[S.length]?=some (Ob.row 4 [[.sl 9 (t.fares.map Far.enc) t.fx,.sl 15 (t.rules.map Rul.enc) t.rx,.sl 3 (t.rous.map Rou.enc) t.ox,.sl 7 (t.taxes.map Tx.enc) t.tx]]):=by rw[hR0];exact Yl
 have hXS:ExtS S (S++[R0]):=Jx
 generalize S++[R0]=V0 at*
 cases kb
 ·simp only[push_cast,hal,h1,h2,gR,ck,Ui,Tryz.f71,↓WX,simprocAttr,WY]
  exact⟨hXS,_,rfl,GL.nil⟩
 simp only[if_true]
 have hk:=hk rfl
 refine Ya (λa V=>V=V0/\gQ a 84 (a[2]?=some (.loc S.length 0 0)) [(1,d)]) ?_ ?_
 ·simp only[push_cast,hal,h1,h2,gR,ck,↓WX,simprocAttr,WY]
 rintro a V ⟨rfl,hal,h1,h2⟩
 refine Ya (λa W=>W=V/\gQ a 84 (a[6]?=some (.nils)) [(1,d),(2,.loc S.length 0 0)]) ?_ ?_
 ·simp only[push_cast,hal,h1,h2,↓WX,simprocAttr]
 rintro a W ⟨rfl,hal,h1,h2,h6⟩
 have mk:=mkB (S:=W) (n:=l.length) (by omega)
 refine Ya (λa V=>V=W++[.row 1 ((List.replicate l.length false).map encB)]/\gQ a 84 (a[7]?=some (.os W.length 0 l.length false)) [(1,d),(2,.loc S.length 0 0),(6,.nils)]) ?_ ?_
 ·simp only[push_cast,hal,h1,h2,h6,hy,mk,↓WX,simprocAttr]
 rintro a V ⟨hV,hal,h1,h2,h6,h7⟩
 have hVx:ExtS W V:=by rw[hV];exact Jx
 have hVb:V[W.length]?=some (.row 1 ((List.replicate l.length false).map encB)):=by rw[hV];exact Yl
 have hWS:S.length<W.length:=(Kr.1 gR).1
 clear hV mk
 refine Za (λa T=>(ExtS W T/\∃dp ps,a[6]?=some dp/\GL 2 Xa T dp ps/\q=some ps)/\gQ a 84 (a[2]?=some (.loc S.length 0 0)) [(1,d)]) ?_ ?_
 ·simp only[push_cast,hal,h1,hy,↓WX,simprocAttr]
  refine Yk (λi a T=>(ExtS W T/\(∃bs:List Bool,bs.length=l.length/\T[W.length]?=some (.row 1 (bs.map encB))/\∃dp ps,a[6]?=some dp/\GL 2 Xa T dp ps/\ps.length<=i/\q=prsF t i (l.drop i) ps/\(∀k n,dp=.os k 0 n false->W.length<k)/\(∀p∈ps,p.1<i)/\∀j:Nat,i<=j->j<l.length->bs[j]?=some (prdF ps j)))/\a.length=84/\a[1]?=some (d)/\a[2]?=some (.loc S.length 0 0)/\a[7]?=some (.os W.length 0 l.length false)/\a[19]?=some (d)/\a[20]?=some (.int .i64 l.length)/\a[21]?=some (.int .i64 i)) l.length ?_ (by omega) ?_
  ·simp only[push_cast,hal,h1,h2,h6,h7,simprocAttr,WY]
   exact⟨hVx,_,List.length_replicate,hVb,_,[],rfl,GL.nil,Uk _,hq,λk n h=>(by cases h),λp hp=>(by cases hp),λj _ hj=>by rw[List.getElem?_replicate,if_pos hj];rfl⟩
  clear hq ck hVb hVx
  rintro i a T hi ⟨⟨hXT,bs,hbl,hTb,dp,ps,h6,hg,hpl,e0,hdk,hp1,hbs⟩,hal,h1,h2,h7,h19,h20,h21⟩
  have gT:=hXT _ _ gR
  rcases Kw hi with hlt |rfl
  case inr=>
   rw[Vj,prsF]at e0
   simp only[push_cast,hal,h1,h2,h6,h20,h21,↓WX,simprocAttr,WY]
   exact⟨hXT,_,_,rfl,hg,e0⟩
  have hltc:(i:Int)<l.length:=by omega
  obtain⟨x,hx⟩:∃x,l[i]?=some x:=⟨l[i],by simp⟩
  obtain⟨fx1,fx2,fx3⟩:=knoF_far (hk x (Kx hx))
  have fx1':(0<=x.fa)=True:=eq_true fx1
  have hbi:=hbs i (Uk _) hlt
  have hT0:W.length<T.length:=(Kr.1 hTb).1
  rw[Yu hx,prsF]at e0
  generalize farF t x=f at*
  refine Ya (λa V=>V=T/\gQ a 84 (a[22]?=some (.bool true)) [(1,d),(2,.loc S.length 0 0),(6,dp),(7,.os W.length 0 l.length false),(19,d),(20,.int .i64 l.length),(21,.int .i64 i)]) ?_ ?_
  ·simp only[push_cast,hal,h1,h2,h6,h7,h19,h20,h21,hltc,↓WX,simprocAttr]
  rintro a V ⟨rfl,hal,h1,h2,h6,h7,h19,h20,h21,h22⟩
  refine Ya (λa T=>T=V/\gQ a 84 (a[21]?=some (.int .i64 i)) [(1,d),(2,.loc S.length 0 0),(6,dp),(7,.os W.length 0 l.length false),(19,d),(20,.int .i64 l.length)]) ?_ ?_
  ·simp only[push_cast,hal,h1,h2,h6,h7,h19,h20,h21,h22,↓WX]
  rintro a T ⟨rfl,hal,h1,h2,h6,h7,h19,h20,h21⟩
  rw[Zx,Yx]
  refine Ya (λa V=>V=T++[.row 4 [[.int .i64 x.fr,.int .i64 x.to,.int .i64 x.fa,.int .i64 x.am]]]/\gQ a 84 (a[21]?=some (.int .i64 i)) [(1,d),(2,.loc S.length 0 0),(6,dp),(7,.os W.length 0 l.length false),(8,.int .i64 i),(9,.loc T.length 0 0),(19,d),(20,.int .i64 l.length)]) ?_ ?_
  ·have hap:=apl (enc:=Prt.enc) hx
   rcases h with ⟨-,rfl⟩ | ⟨lx,rfl,hk0⟩ | ⟨kk,es,rfl,hk0⟩
   ·cases hx
   case' inr.inr=>
    have hk0:T[kk]?=some (.row 4 (l.map Prt.enc++es)):=by
     have:=hk0 []
     rw[Ur]at this
     exact hXT _ _ (hXS _ _ this)
   all_goals
    simp only[push_cast,hal,h1,h2,h6,h7,h19,h20,h21,hap,hk0,hlt,hx,Yq,Yl,Prt.enc,↓WX,simprocAttr]
  rintro a V ⟨hV,hal,h1,h2,h6,h7,h8,h9,h19,h20,h21⟩
  have hTV:ExtS T V:=by rw[hV];exact Jx
  have gx:V[T.length]?=some (.row 4 [[.int .i64 x.fr,.int .i64 x.to,.int .i64 x.fa,.int .i64 x.am]]):=by rw[hV];exact Yl
  have hVl:V.length=T.length+1:=by rw[hV,Ku];rfl
  clear hV
  have vR:=hTV _ _ gT
  refine Ya (λa U=>U=V++[.row 9 [[.str f.car,.str f.frm,.str f.dst,.str f.bas,.str f.cls,.bool f.rnd,.int .i64 f.amt,.int .i64 f.rul,.int .i64 f.rou]]]/\gQ a 84 (a[21]?=some (.int .i64 i)) [(1,d),(2,.loc S.length 0 0),(6,dp),(7,.os W.length 0 l.length false),(8,.int .i64 i),(10,.loc V.length 0 0),(19,d),(20,.int .i64 l.length)]) ?_ ?_
  ·simp only[push_cast,hal,h1,h2,h6,h7,h8,h9,h19,h20,h21,gx,vR,fx1',fx3,Yq,Yl,Far.enc,↓WX,simprocAttr]
  rintro a U ⟨hU,hal,h1,h2,h6,h7,h8,h10,h19,h20,h21⟩
  have hVU:ExtS V U:=by rw[hU];exact Jx
  have hTU:ExtS T U:=λk o ho=>hVU _ _ (hTV _ _ ho)
  have gf:U[V.length]?=some (.row 9 [[.str f.car,.str f.frm,.str f.dst,.str f.bas,.str f.cls,.bool f.rnd,.int .i64 f.amt,.int .i64 f.rul,.int .i64 f.rou]]):=by rw[hU];exact Yl
  have hUl:U.length=T.length+2:=by rw[hU,Ku,hVl];rfl
  clear hU gx vR
  have uR:=hTU _ _ gT
  have ub:=hTU _ _ hTb
  have ug:GL 2 Xa U dp ps:=hg.imp id λ⟨k,e,g⟩=>⟨k,e,hTU _ _ g⟩
  have hWU:=λk o (ho:W[k]?=some o)=>hTU _ _ (hXT k o ho)
  obtain⟨kf,hkf⟩:∃kf,kf=V.length:=⟨_,rfl⟩
  rw[<-hkf]at gf h10
  clear hkf hVU hTV hVl
  have hbil:i<bs.length:=by omega
  have hUk:∀k n,dp=.os k 0 n false->W.length<k:=hdk
  have hql:∀p∈ps,p.1<((i+1:Nat):Int):=λp hp=>by have:=hp1 p hp;omega
  generalize hbp:prdF ps i=bp at*
  cases hr:f.rnd
  ·simp only[hr,Bool.true_or,if_true,WY]at e0
   simp(disch:=omega)only[push_cast,hal,h1,h2,h6,h7,h10,h19,h20,h21,gf,ub,hr,hlt,Yf,↓WX,simprocAttr,WY]
   exact⟨hWU,bs,hbl,rfl,_,_,rfl,ug,by omega,e0,hdk,λp hp=>by have:=hp1 p hp;omega,λj h1 h2=>hbs j (by omega) h2⟩
  cases bp
  case true=>
   simp only[hr,Bool.or_true,if_true]at e0
   simp(disch:=omega)only[push_cast,hal,h1,h2,h6,h7,h8,h10,h19,h20,h21,gf,ub,hr,hlt,hbi,encB,Yf,↓WX,simprocAttr,WY]
   exact⟨hWU,bs,hbl,rfl,_,_,rfl,ug,by omega,e0,hdk,λp hp=>by have:=hp1 p hp;omega,λj h1 h2=>hbs j (by omega) h2⟩
  simp only[hr,Bool.false_or,Ui,if_false,WY]at e0
  refine Ya (λa V=>V=U/\gQ a 84 (a[21]?=some (.int .i64 i)) [(1,d),(2,.loc S.length 0 0),(6,dp),(7,.os W.length 0 l.length false),(8,.int .i64 i),(10,.loc kf 0 0),(19,d),(20,.int .i64 l.length)]) ?_ ?_
  ·simp only[push_cast,hal,h1,h2,h6,h7,h8,h10,h19,h20,h21,gf,ub,hr,hlt,hbi,encB,↓WX,simprocAttr,WY]
  rintro a V ⟨rfl,hal,h1,h2,h6,h7,h8,h10,h19,h20,h21⟩
  refine Ya (λa U=>U=V/\gQ a 84 (a[21]?=some (.int .i64 i)) [(1,d),(2,.loc S.length 0 0),(6,dp),(7,.os W.length 0 l.length false),(8,.int .i64 i),(10,.loc kf 0 0),(11,.int .i64 ((i+1:Nat):Int)),(19,d),(20,.int .i64 l.length)]) ?_ ?_
  ·simp(disch:=omega)only[push_cast,hal,h1,h2,h6,h7,h8,h10,h19,h20,h21,Yf,↓WX,simprocAttr,WY]
  rintro a U ⟨rfl,hal,h1,h2,h6,h7,h8,h10,h11,h19,h20,h21⟩
  obtain⟨z,hz⟩:∃z,z=prtF t ps f (i+1) (l.drop (i+1)):=⟨_,rfl⟩
  rw[<-hz]at e0
  refine Ya (λa V=>(V=U/\∃K:Nat,i+1<=K/\a[11]?=some (.int .i64 K)/\((z<0/\K=l.length)∨(z=K/\K<l.length)))/\gQ a 84 (a[21]?=some (.int .i64 i)) [(1,d),(2,.loc S.length 0 0),(6,dp),(7,.os W.length 0 l.length false),(8,.int .i64 i),(19,d),(20,.int .i64 l.length)]) ?_ ?_
  ·simp only[push_cast,↓WX]
   refine Yk (λm a V=>(V=U/\∃K:Nat,K=i+1+m/\a[11]?=some (.int .i64 K)/\z=prtF t ps f K (l.drop K))/\a.length=84/\a[1]?=some (d)/\a[2]?=some (.loc S.length 0 0)/\a[6]?=some (dp)/\a[7]?=some (.os W.length 0 l.length false)/\a[8]?=some (.int .i64 i)/\a[10]?=some (.loc kf 0 0)/\a[19]?=some (d)/\a[20]?=some (.int .i64 l.length)/\a[21]?=some (.int .i64 i)) (l.length-(i+1)) ?_ (by omega) ?_
   ·simp only[push_cast,hal,h1,h2,h6,h7,h8,h10,h11,h19,h20,h21]
    exact⟨_,rfl,rfl,hz⟩
   clear hz
   rintro m a V hm ⟨⟨rfl,K,hK,h11,ez⟩,hal,h1,h2,h6,h7,h8,h10,h19,h20,h21⟩
   have hyV:=hy V
   by_cases hKl:K<l.length
   case neg=>
    obtain rfl:K=l.length:=by omega
    rw[Vj,prtF]at ez
    simp only[push_cast,hal,h1,h2,h6,h7,h8,h11,h19,h20,h21,hyV,↓WX,simprocAttr,WY]
    exact⟨_,by omega,rfl,.inl ⟨by omega,rfl⟩⟩
   have hKc:(K:Int)<l.length:=by omega
   obtain⟨y,hyK⟩:∃y,l[K]?=some y:=⟨l[K],by simp⟩
   obtain⟨fy1,fy2,fy3⟩:=knoF_far (hk y (Kx hyK))
   have fy1':(0<=y.fa)=True:=eq_true fy1
   have hbK:=hbs K (by omega) hKl
   have hKb:K<bs.length:=by omega
   have cb:=cbk f (farF t y)
   have hrt:rtnF f (farF t y)=bckF f (farF t y):=by unfold rtnF bckF;rw[hr,Bool.true_and]
   rw[Yu hyK,prtF,hrt]at ez
   generalize farF t y=g at*
   generalize prdF ps K=bK at*
   generalize bckF f g=bb at*
   have hmm:m<l.length-(i+1):=by omega
   have hap:=apl (enc:=Prt.enc) hyK
   rcases h with ⟨-,rfl⟩ | ⟨lx,rfl,hk0⟩ | ⟨kk,es,rfl,hk0⟩
   ·cases hyK
   case' inr.inr=>
    have hk0:V[kk]?=some (.row 4 (l.map Prt.enc++es)):=by
     have:=hk0 []
     rw[Ur]at this
     exact hWU _ _ (hXS _ _ this)
   all_goals
    cases bK
    ·cases bb
     ·simp only[Bool.not_false,Bool.and_false,Ui,if_false]at ez
      simp(maxSteps:=1000000)(disch:=omega)only[push_cast,hal,h1,h2,h6,h7,h8,h10,h11,h19,h20,h21,hap,hk0,hKc,hyK,hbK,ub,uR,gf,cb,fy1',fy3,hmm,Bool.not_false,Prt.enc,Far.enc,encB,Yf,↓WX,simprocAttr]
      exact⟨K+1,by omega,by push_cast<;>rfl,ez⟩
     ·simp only[Bool.not_false,Bool.and_self,if_true]at ez
      simp only[push_cast,hal,h1,h2,h6,h7,h8,h10,h11,h19,h20,h21,hap,hk0,hKc,hyK,hbK,ub,uR,gf,cb,fy1',fy3,Prt.enc,Far.enc,encB,↓WX,simprocAttr,WY]
      exact⟨K,by omega,rfl,.inr ⟨ez,hKl⟩⟩
    ·simp only[Bool.not_true,Bool.false_and,Ui,if_false]at ez
     simp(maxSteps:=1000000)(disch:=omega)only[push_cast,hal,h1,h2,h6,h7,h8,h10,h11,h19,h20,h21,hKc,hbK,ub,hmm,encB,Yf,↓WX,simprocAttr]
     exact⟨K+1,by omega,by push_cast<;>rfl,ez⟩
  clear hz
  rintro a V ⟨⟨rfl,K,hK1,h11,hKz⟩,hal,h1,h2,h6,h7,h8,h19,h20,h21⟩
  have hyV:=hy V
  rcases hKz with ⟨hz0,rfl⟩ | ⟨rfl,hKl⟩
  ·rw[if_pos hz0]at e0
   subst e0
   simp only[push_cast,hal,h1,h2,h11,hyV,Tryz.f71,↓WX,simprocAttr,WY]
   exact⟨λk o ho=>hWU _ _ (hXS _ _ ho),_,rfl,GL.nil⟩
  rw[if_neg (by omega)]at e0
  have hKne:((K:Int)=l.length)=False:=eq_false (by omega)
  have hKb:K<bs.length:=by omega
  have hub:W.length<V.length:=(Kr.1 ub).1
  obtain⟨U,hU⟩:∃U,U=V.set W.length (.row 1 ((bs.set K true).map encB)):=⟨_,rfl⟩
  have hU1:V.set W.length (.row 1 ((bs.map encB).set K [.bool true]))=U:=by rw[hU,List.map_set];rfl
  have u2:U[W.length]?=some (.row 1 ((bs.set K true).map encB)):=by rw[hU];exact Uf hub
  have u3:∀k,k≠W.length->U[k]?=V[k]? :=λk hk=>by rw[hU,Kt (λe=>hk e.symm)]
  have u4:GL 2 Xa U dp ps:=ug.imp id λ⟨k,e,g⟩=>⟨k,e,by rw[u3 k (by have:=hdk k _ e;omega)];exact g⟩
  have u5:U.length=V.length:=by rw[hU,Ux]
  clear hU
  obtain⟨S',a1,a2,a3,a4⟩:=ap u4 (by omega) ((i:Int),(K:Int))
  refine Ya (λa T=>T=V/\gQ a 84 (a[21]?=some (.int .i64 i)) [(1,d),(2,.loc S.length 0 0),(6,dp),(7,.os W.length 0 l.length false),(8,.int .i64 i),(11,.int .i64 K),(19,d),(20,.int .i64 l.length)]) ?_ ?_
  ·simp only[push_cast,hal,h1,h2,h6,h7,h8,h11,h19,h20,h21,hyV,hKne,↓WX,simprocAttr,WY]
  rintro a T' ⟨rfl,hal,h1,h2,h6,h7,h8,h11,h19,h20,h21⟩
  refine Ya (λa T=>T=U/\gQ a 84 (a[21]?=some (.int .i64 i)) [(1,d),(2,.loc S.length 0 0),(6,dp),(7,.os W.length 0 l.length false),(8,.int .i64 i),(11,.int .i64 K),(19,d),(20,.int .i64 l.length)]) ?_ ?_
  ·simp only[push_cast,hal,h1,h2,h6,h7,h8,h11,h19,h20,h21,ub,hKl,hU1,encB,Uh hKb,↓WX,simprocAttr]
  rintro a T' ⟨rfl,hal,h1,h2,h6,h7,h8,h11,h19,h20,h21⟩
  simp(disch:=omega)only[push_cast,hal,h1,h2,h6,h7,h8,h11,h19,h20,h21,a1,hlt,Yf,↓WX,simprocAttr,WY]
  refine⟨λk o ho=>a4 k o (λn hdn=>?_) ?_,bs.set K true,by rw[Ux];exact hbl,a4 _ _ (λn hdn=>?_) u2,_,_,rfl,a2,by rw[Ku,List.length_singleton];omega,e0,λk n hdn=>?_,λp hp=>?_,λj h1 h2=>?_⟩
  ·have:=hdk k n hdn
   have:=(Kr.1 ho).1
   omega
  ·rw[u3 k (by have:=(Kr.1 ho).1;omega)]
   exact hWU k o ho
  ·exact absurd (hdk _ _ hdn) (Vl _)
  ·obtain⟨rfl,-⟩:=D.os.inj hdn
   omega
  ·rcases List.mem_append.1 hp with hp |hp
   ·have:=hp1 p hp
    omega
   ·rw[List.mem_singleton.1 hp]
    dsimp only
    omega
  ·rw[prdF_add,Ud (show ¬((i:Int)=(j:Int)) by omega),Bool.false_or]
   have hb:=hbs j (by omega) h2
   by_cases e:K=j
   ·subst e
    rw[Uf hKb,Ue rfl,Bool.or_true]
   ·rw[Kt e,hb,Ud (by omega),Bool.or_false]
 rintro a T ⟨⟨hXT,dp,ps,h6,hg,rfl⟩,hal,h1,h2⟩
 simp only[push_cast,hal,h6,Tryz.f71,↓WX,simprocAttr]
 exact⟨λk o ho=>hXT _ _ (hXS _ _ ho),_,rfl,hg⟩
theorem PPairs_x {S:List Ob} (t:Trf) {d:D} {l:List Prt} (h:LR 4 Prt.enc S d l) (hl:l.length<=900) (hn:3001<=n):∃d' T,Yi E (Yb E n) false S 71 [.agg t.enc,d]=some (.tup [d',.int .i64 (Xq t l).2],T)/\ExtS S T/\LQ 2 Xa T d' (Xq t l).1:=by
 obtain⟨m,rfl⟩:∃m,n=m+1:=⟨n-1,by omega⟩
 by_cases hp:d.pure=true
 ·obtain⟨_,T,ho,hx,d',rfl,hg⟩:=PPairs_d (n:=m) (S:=[]) t (h.pure0 hp).lr hl (by omega)
  obtain⟨d2,hf,hd⟩:=hg.flsN (Ka _) 37
  refine⟨d2,S,Yd rfl (by simp only[Yc,Yg,D.pure,Ja,hp,Ua]) ho ?_,λ_ _ h=>h,hd.lq⟩
  exact freeze_tup2 hf
 ·obtain⟨_,T,ho,hx,d',rfl,hg⟩:=PPairs_d (n:=m) t h hl (by omega)
  exact⟨d',T,(Jk rfl (by simp only[Yc,Yg,D.pure,Ja,Ua,WY];simpa using hp)).trans ho,hx,hg.lq⟩
end
theorem ofs_eq (u:Int):∀(l:List Shf) (q:Int),ShOk l->ofsP u q l=ofsF u q l
 | [],q,_=>rfl
 |x::xs,q,h=>by
  obtain⟨h1,h2⟩:=List.pairwise_cons.1 h
  have late:∀(ys:List Shf) (q:Int),(∀y∈ys,u<y.tm)->ofsF u q ys=q:=λys=>by
   induction ys with
   |nil=>intro q _;rfl
   |cons y ys ih=>
    intro q hy
    have:=hy y (Uo ..)
    rw[ofsF,if_neg (by omega)]
    exact ih q λz hz=>hy z (Um _ hz)
  rw[ofsP,ofsF]
  by_cases c:u<x.tm
  ·rw[if_pos c,if_neg (by omega),late xs q λy hy=>by have:=h1 y hy;omega]
  ·rw[if_neg c,if_pos (by omega),ofs_eq u xs x.off h2]
theorem loc_eq {o:Option Apt} (h:∀a,o=some a->ShOk a.sh) (u:Int):locP o u=locF o u:=by
 unfold locP locF
 cases o with
 |none=>rfl
 |some a=>
  show IntKind.i64.wrap (u+ofsP u a.off a.sh)=IntKind.i64.wrap (u+ofsF u a.off a.sh)
  rw[ofs_eq u _ _ (h a rfl)]
def preD:D->Nat->D
 | .sl sz es x,i=>.sl sz (es.take i) (x && decide (i=es.length))
 | .os k o _ x,i=>.os k o i x
 |d,_=>d
section
variable {n : Nat}
theorem PMixed_d {S:List Ob} (t:Trf) {d:D} {l:List Prt} (h:LR 4 Prt.enc S d l) (hl:l.length<=900) (hr:t.rules.length<=1048576) (hcb:∀r∈t.rules,r.comb.length<=1048576) (hn:1048900<=n):
  WO (Yb E (n+1) 72 [.agg t.enc,d] S) λr T=>r=.int .i64 (mixedF t l)/\∃J,T=S++J:=by
 have hy:=lr_len Tryz.underlying37 h
 simp only[push_cast]at hy
 obtain⟨R0,hR0⟩:∃R0,R0=Ob.row 4 [t.enc]:=⟨_,rfl⟩
 have ck:=Ppriced_x (n:=n) t (h.ext (Jx (J:=[R0]))) (by omega) (by omega)
 unfold mixedF
 have hk:l.all (knoF t)=true->∀x∈l,knoF t x=true:=λh=>List.all_eq_true.1 h
 generalize l.all (knoF t)=kb at*
 obtain⟨q,hq⟩:∃q,q=mxF (λx y=>mix2F (rulF t x) (rulF t y)) [] l:=⟨_,rfl⟩
 rw[<-hq]
 have crl:=λx hx=>PruleOf_x (n:=n) t x hx hr (by omega)
 have cmx:=λx y=>PMix_x (n:=n) (rulF t x) (rulF t y) (λr hr=>hcb r (List.mem_of_find?_eq_some hr)) (λr hr=>hcb r (List.mem_of_find?_eq_some hr)) (by omega)
 simp only[Trf.enc]at ck crl hR0 ⊢
 refine Ye Tryz.func72 rfl (by decide) rfl 38 rfl (λa hal ha=>?_)
 obtain⟨h0,h1⟩:=aQ2 ha
 clear ha
 refine Ya (λa V=>V=S++[R0]/\gQ a 38 (a[2]?=some (.loc S.length 0 0)) [(1,d)]) ?_ ?_
 ·simp only[push_cast,hal,h0,h1,hR0,↓WX,simprocAttr]
 rintro a V ⟨rfl,hal,h1,h2⟩
 have gR:(S++[R0])[S.length]?=some (Ob.row 4 [[.sl 9 (t.fares.map Far.enc) t.fx,.sl 15 (t.rules.map Rul.enc) t.rx,.sl 3 (t.rous.map Rou.enc) t.ox,.sl 7 (t.taxes.map Tx.enc) t.tx]]):=by rw[hR0];exact Yl
 cases kb
 ·simp only[push_cast,hal,h1,h2,gR,ck,Ui,Tryz.f72,↓WX,simprocAttr,WY]
  exact⟨_,rfl⟩
 simp only[if_true]
 have hk:=hk rfl
 refine Ya (λa V=>V=S++[R0]/\gQ a 38 (a[2]?=some (.loc S.length 0 0)) [(1,d)]) ?_ ?_
 ·simp only[push_cast,hal,h1,h2,gR,ck,↓WX,simprocAttr,WY]
 rintro a V ⟨rfl,hal,h1,h2⟩
 refine Za (λa T=>((∃J,T=S++J)/\q=true)/\a.length=38) ?_ ?_
 ·simp only[push_cast,hal,h1,hy,↓WX,simprocAttr]
  refine Yk (λi a T=>((∃J,T=S++R0::J)/\q=mxF (λx y=>mix2F (rulF t x) (rulF t y)) (l.take i) (l.drop i))/\a.length=38/\a[1]?=some (d)/\a[2]?=some (.loc S.length 0 0)/\a[13]?=some (d)/\a[14]?=some (.int .i64 l.length)/\a[15]?=some (.int .i64 i)) l.length ?_ (by omega) ?_
  ·simp only[push_cast,hal,h1,h2,simprocAttr,WY]
   exact⟨⟨[],rfl⟩,hq⟩
  clear hq ck gR
  rintro i a T hi ⟨⟨⟨J,rfl⟩,e0⟩,hal,h1,h2,h13,h14,h15⟩
  rcases Kw hi with hlt |rfl
  case inr=>
   rw[Vj,mxF]at e0
   simp only[push_cast,hal,h14,h15,↓WX,simprocAttr,WY]
   exact⟨⟨_,rfl⟩,e0⟩
  have hltc:(i:Int)<l.length:=by omega
  obtain⟨x,hx⟩:∃x,l[i]?=some x:=⟨l[i],by simp⟩
  have hti:(l.take (i+1))=l.take i++[x]:=by rw[List.take_add_one,hx];rfl
  have crx:=crl x (hk x (Kx hx))
  obtain⟨x1,x2,x3,x4,x5,x6,x7,x8,x9,x10,x11,x12,x13,x14,hxr,-⟩:=Jy (rulF t x)
  have cmx:=cmx x
  rw[hxr]at crx cmx
  simp only[Prt.enc]at crx
  rw[Yu hx]at e0
  refine Ya (λa V=>V=S++R0::J/\gQ a 38 (a[16]?=some (.bool true)) [(1,d),(2,.loc S.length 0 0),(13,d),(14,.int .i64 l.length),(15,.int .i64 i)]) ?_ ?_
  ·simp only[push_cast,hal,h1,h2,h13,h14,h15,hltc,↓WX,simprocAttr]
  rintro a V ⟨rfl,hal,h1,h2,h13,h14,h15,h16⟩
  refine Ya (λa V=>V=S++R0::J/\gQ a 38 (a[15]?=some (.int .i64 i)) [(1,d),(2,.loc S.length 0 0),(13,d),(14,.int .i64 l.length)]) ?_ ?_
  ·simp only[push_cast,hal,h1,h2,h13,h14,h15,h16,↓WX]
  rintro a V ⟨rfl,hal,h1,h2,h13,h14,h15⟩
  rw[Zx,Yx]
  refine Ya (λa W=>(∃kx J,a[6]?=some (.loc kx 0 0)/\W[kx]?=some (.row 4 [[.int .i64 x.fr,.int .i64 x.to,.int .i64 x.fa,.int .i64 x.am]])/\W=S++R0::J)/\gQ a 38 (a[15]?=some (.int .i64 i)) [(1,d),(2,.loc S.length 0 0),(5,.int .i64 i),(13,d),(14,.int .i64 l.length)]) ?_ ?_
  ·have hap:=apl (enc:=Prt.enc) hx
   rcases h with ⟨-,rfl⟩ | ⟨lx,rfl,hk0⟩ | ⟨kk,es,rfl,hk0⟩
   ·cases hx
   case' inr.inr=>have hk0:=hk0 (R0::J)
   all_goals
    simp only[push_cast,hal,h1,h2,h13,h14,h15,hap,hk0,hlt,hx,Yq,Yl,Prt.enc,↓WX,simprocAttr]
    exact⟨_,_,rfl,Yl,Vg ..⟩
  clear J
  rintro a W ⟨⟨kx,J,h6,gx,rfl⟩,hal,h1,h2,h5,h13,h14,h15⟩
  obtain⟨e,he⟩:∃e,e=preD d i:=⟨_,rfl⟩
  have hil:i<=l.length:=by omega
  have hil':(i<=l.length)=True:=eq_true hil
  have hap:=apl (enc:=Prt.enc) hx
  rcases h with ⟨-,rfl⟩ | ⟨lx,rfl,hk0⟩ | ⟨kk,es,rfl,hk0⟩
  ·cases hx
  ·skip
   simp only[preD]at he
   have hle:min i l.length=i:=by omega
   simp only[push_cast,hal,h1,h5,hil',Vt,Nat.sub_zero,List.drop_zero,Ve,hle,↓WX,simprocAttr]
   refine Yk (λk a T=>((∃J,T=S++R0::J/\T[kx]?=some (.row 4 [[.int .i64 x.fr,.int .i64 x.to,.int .i64 x.fa,.int .i64 x.am]]))/\∀y∈l.take k,mix2F (rulF t x) (rulF t y)=true)/\a.length=38/\a[1]?=some (.sl 4 (l.map Prt.enc) lx)/\a[2]?=some (.loc S.length 0 0)/\a[6]?=some (.loc kx 0 0)/\a[13]?=some (.sl 4 (l.map Prt.enc) lx)/\a[14]?=some (.int .i64 l.length)/\a[15]?=some (.int .i64 i)/\a[22]?=some (e)/\a[23]?=some (.int .i64 i)/\a[24]?=some (.int .i64 k)) i ?_ (by omega) ?_
   ·simp only[push_cast,hal,h1,h2,h6,h13,h14,h15,he,simprocAttr,WY]
    exact⟨⟨_,rfl,gx⟩,λy hy=>(by cases hy)⟩
   clear gx J
   rintro k a T hik ⟨⟨⟨J,rfl,gx⟩,e1⟩,hal,h1,h2,h6,h13,h14,h15,h22,h23,h24⟩
   rcases Kw hik with hkt |rfl
   case inr=>
    rw[mxF_all e1,<-hti]at e0
    simp(disch:=omega)only[push_cast,hal,h1,h2,h13,h14,h15,h23,h24,hlt,Yf,↓WX,simprocAttr,WY]
    exact⟨⟨_,rfl⟩,e0⟩
   have hktc:(k:Int)<i:=by omega
   have hkl:k<l.length:=by omega
   obtain⟨y,hyk⟩:∃y,l[k]?=some y:=⟨l[k],by simp⟩
   have hytk:y∈l.take i:=Kx (i:=k) (by rw[List.getElem?_take,if_pos hkt];exact hyk)
   have hyt:(l.take (k+1))=l.take k++[y]:=by rw[List.take_add_one,hyk];rfl
   have htk:(l.take i)[k]?=some y:=by rw[List.getElem?_take,if_pos hkt];exact hyk
   have cry:=crl y (hk y (Kx hyk))
   obtain⟨y1,y2,y3,y4,y5,y6,y7,y8,y9,y10,y11,y12,y13,y14,hyr,-⟩:=Jy (rulF t y)
   have cmy:=cmx y
   rw[hyr]at cry cmy
   simp only[Prt.enc]at cry
   have hkm:k<min i l.length:=by omega
   refine Ya (λa V=>V=S++R0::J/\gQ a 38 (a[25]?=some (.bool true)) [(1,.sl 4 (l.map Prt.enc) lx),(2,.loc S.length 0 0),(6,.loc kx 0 0),(13,.sl 4 (l.map Prt.enc) lx),(14,.int .i64 l.length),(15,.int .i64 i),(22,e),(23,.int .i64 i),(24,.int .i64 k)]) ?_ ?_
   ·simp only[push_cast,hal,h1,h2,h6,h13,h14,h15,h22,h23,h24,hktc,↓WX,simprocAttr]
   rintro a V ⟨rfl,hal,h1,h2,h6,h13,h14,h15,h22,h23,h24,h25⟩
   refine Ya (λa V=>V=S++R0::J/\gQ a 38 (a[24]?=some (.int .i64 k)) [(1,.sl 4 (l.map Prt.enc) lx),(2,.loc S.length 0 0),(6,.loc kx 0 0),(13,.sl 4 (l.map Prt.enc) lx),(14,.int .i64 l.length),(15,.int .i64 i),(22,e),(23,.int .i64 i)]) ?_ ?_
   ·simp only[push_cast,hal,h1,h2,h6,h13,h14,h15,h22,h23,h24,h25,↓WX]
   rintro a V ⟨rfl,hal,h1,h2,h6,h13,h14,h15,h22,h23,h24⟩
   rw[Zx,Yx]
   refine Ya (λa W=>(∃ky J,a[8]?=some (.loc ky 0 0)/\W[ky]?=some (.row 4 [[.int .i64 y.fr,.int .i64 y.to,.int .i64 y.fa,.int .i64 y.am]])/\W[kx]?=some (.row 4 [[.int .i64 x.fr,.int .i64 x.to,.int .i64 x.fa,.int .i64 x.am]])/\W=S++R0::J)/\gQ a 38 (a[24]?=some (.int .i64 k)) [(1,.sl 4 (l.map Prt.enc) lx),(2,.loc S.length 0 0),(6,.loc kx 0 0),(13,.sl 4 (l.map Prt.enc) lx),(14,.int .i64 l.length),(15,.int .i64 i),(22,e),(23,.int .i64 i)]) ?_ ?_
   ·rw[he]at h22
    simp only[push_cast,hal,h1,h2,h6,h13,h14,h15,h22,h23,h24,htk,Yq,Yl,<-List.map_take,Prt.enc,he,↓WX,simprocAttr]
    exact⟨_,_,rfl,Yl,Ym gx,Vg ..⟩
   clear gx J
   rintro a W ⟨⟨ky,J,h8,gy,gx,rfl⟩,hal,h1,h2,h6,h13,h14,h15,h22,h23,h24⟩
   have gR:(S++R0::J)[S.length]?=some (Ob.row 4 [[.sl 9 (t.fares.map Far.enc) t.fx,.sl 15 (t.rules.map Rul.enc) t.rx,.sl 3 (t.rous.map Rou.enc) t.ox,.sl 7 (t.taxes.map Tx.enc) t.tx]]):=at_app.trans (congrArg some hR0)
   have hSJ:∃K,S++R0::J=S++K:=⟨_,rfl⟩
   have hSR:∃K,S++R0::J=S++R0::K:=⟨_,rfl⟩
   generalize S++R0::J=W at*
   cases hm:mix2F (rulF t x) (rulF t y)
   ·rw[mxF_no hytk hm]at e0
    subst e0
    rw[hm]at cmy
    simp only[push_cast,hal,h2,h6,h8,gR,gx,gy,crx,cry,cmy,Ui,Tryz.f72,↓WX,simprocAttr,WY]
    exact hSJ
   ·rw[hm]at cmy
    simp(disch:=omega)only[push_cast,hal,h1,h2,h6,h8,h13,h14,h15,h22,h23,h24,gR,gx,gy,crx,cry,cmy,hkt,Yf,↓WX,simprocAttr,WY]
    refine⟨hSR,λz hz=>?_⟩
    rw[hyt]at hz
    rcases List.mem_append.1 hz with hz |hz
    ·exact e1 z hz
    ·rw[List.mem_singleton.1 hz];exact hm
  ·have hk1:=hk0 (R0::J)
   have hk2:∀J,(S++R0::J)[kk]?=some (Ob.row 4 (l.map Prt.enc++es)):=λJ=>hk0 (R0::J)
   simp only[preD]at he
   have hle:min i l.length=i:=by omega
   simp only[push_cast,hal,h1,h5,hk1,hil',Vt,Nat.sub_zero,Vl,and_false,↓WX,simprocAttr]
   refine Yk (λk a T=>((∃J,T=S++R0::J/\T[kx]?=some (.row 4 [[.int .i64 x.fr,.int .i64 x.to,.int .i64 x.fa,.int .i64 x.am]]))/\∀y∈l.take k,mix2F (rulF t x) (rulF t y)=true)/\a.length=38/\a[1]?=some (.os kk 0 l.length false)/\a[2]?=some (.loc S.length 0 0)/\a[6]?=some (.loc kx 0 0)/\a[13]?=some (.os kk 0 l.length false)/\a[14]?=some (.int .i64 l.length)/\a[15]?=some (.int .i64 i)/\a[22]?=some (e)/\a[23]?=some (.int .i64 i)/\a[24]?=some (.int .i64 k)) i ?_ (by omega) ?_
   ·simp only[push_cast,hal,h1,h2,h6,h13,h14,h15,he,simprocAttr,WY]
    exact⟨⟨_,rfl,gx⟩,λy hy=>(by cases hy)⟩
   clear gx hk1 J
   rintro k a T hik ⟨⟨⟨J,rfl,gx⟩,e1⟩,hal,h1,h2,h6,h13,h14,h15,h22,h23,h24⟩
   rcases Kw hik with hkt |rfl
   case inr=>
    rw[mxF_all e1,<-hti]at e0
    simp(disch:=omega)only[push_cast,hal,h1,h2,h13,h14,h15,h23,h24,hlt,Yf,↓WX,simprocAttr,WY]
    exact⟨⟨_,rfl⟩,e0⟩
   have hktc:(k:Int)<i:=by omega
   have hkl:k<l.length:=by omega
   obtain⟨y,hyk⟩:∃y,l[k]?=some y:=⟨l[k],by simp⟩
   have hytk:y∈l.take i:=Kx (i:=k) (by rw[List.getElem?_take,if_pos hkt];exact hyk)
   have hyt:(l.take (k+1))=l.take k++[y]:=by rw[List.take_add_one,hyk];rfl
   have htk:(l.take i)[k]?=some y:=by rw[List.getElem?_take,if_pos hkt];exact hyk
   have cry:=crl y (hk y (Kx hyk))
   obtain⟨y1,y2,y3,y4,y5,y6,y7,y8,y9,y10,y11,y12,y13,y14,hyr,-⟩:=Jy (rulF t y)
   have cmy:=cmx y
   rw[hyr]at cry cmy
   simp only[Prt.enc]at cry
   have hkm:k<min i l.length:=by omega
   refine Ya (λa V=>V=S++R0::J/\gQ a 38 (a[25]?=some (.bool true)) [(1,.os kk 0 l.length false),(2,.loc S.length 0 0),(6,.loc kx 0 0),(13,.os kk 0 l.length false),(14,.int .i64 l.length),(15,.int .i64 i),(22,e),(23,.int .i64 i),(24,.int .i64 k)]) ?_ ?_
   ·simp only[push_cast,hal,h1,h2,h6,h13,h14,h15,h22,h23,h24,hktc,↓WX,simprocAttr]
   rintro a V ⟨rfl,hal,h1,h2,h6,h13,h14,h15,h22,h23,h24,h25⟩
   refine Ya (λa V=>V=S++R0::J/\gQ a 38 (a[24]?=some (.int .i64 k)) [(1,.os kk 0 l.length false),(2,.loc S.length 0 0),(6,.loc kx 0 0),(13,.os kk 0 l.length false),(14,.int .i64 l.length),(15,.int .i64 i),(22,e),(23,.int .i64 i)]) ?_ ?_
   ·simp only[push_cast,hal,h1,h2,h6,h13,h14,h15,h22,h23,h24,h25,↓WX]
   rintro a V ⟨rfl,hal,h1,h2,h6,h13,h14,h15,h22,h23,h24⟩
   rw[Zx,Yx]
   refine Ya (λa W=>(∃ky J,a[8]?=some (.loc ky 0 0)/\W[ky]?=some (.row 4 [[.int .i64 y.fr,.int .i64 y.to,.int .i64 y.fa,.int .i64 y.am]])/\W[kx]?=some (.row 4 [[.int .i64 x.fr,.int .i64 x.to,.int .i64 x.fa,.int .i64 x.am]])/\W=S++R0::J)/\gQ a 38 (a[24]?=some (.int .i64 k)) [(1,.os kk 0 l.length false),(2,.loc S.length 0 0),(6,.loc kx 0 0),(13,.os kk 0 l.length false),(14,.int .i64 l.length),(15,.int .i64 i),(22,e),(23,.int .i64 i)]) ?_ ?_
   ·have apy:=apl (enc:=Prt.enc) hyk
    rw[he]at h22
    simp only[push_cast,hal,h1,h2,h6,h13,h14,h15,h22,h23,h24,hk2,apy,hkt,Yq,Yl,Prt.enc,he,↓WX,simprocAttr]
    exact⟨_,_,rfl,Yl,Ym gx,Vg ..⟩
   clear gx J
   rintro a W ⟨⟨ky,J,h8,gy,gx,rfl⟩,hal,h1,h2,h6,h13,h14,h15,h22,h23,h24⟩
   have gR:(S++R0::J)[S.length]?=some (Ob.row 4 [[.sl 9 (t.fares.map Far.enc) t.fx,.sl 15 (t.rules.map Rul.enc) t.rx,.sl 3 (t.rous.map Rou.enc) t.ox,.sl 7 (t.taxes.map Tx.enc) t.tx]]):=at_app.trans (congrArg some hR0)
   have hSJ:∃K,S++R0::J=S++K:=⟨_,rfl⟩
   have hSR:∃K,S++R0::J=S++R0::K:=⟨_,rfl⟩
   generalize S++R0::J=W at*
   cases hm:mix2F (rulF t x) (rulF t y)
   ·rw[mxF_no hytk hm]at e0
    subst e0
    rw[hm]at cmy
    simp only[push_cast,hal,h2,h6,h8,gR,gx,gy,crx,cry,cmy,Ui,Tryz.f72,↓WX,simprocAttr,WY]
    exact hSJ
   ·rw[hm]at cmy
    simp(disch:=omega)only[push_cast,hal,h1,h2,h6,h8,h13,h14,h15,h22,h23,h24,gR,gx,gy,crx,cry,cmy,hkt,Yf,↓WX,simprocAttr,WY]
    refine⟨hSR,λz hz=>?_⟩
    rw[hyt]at hz
    rcases List.mem_append.1 hz with hz |hz
    ·exact e1 z hz
    ·rw[List.mem_singleton.1 hz];exact hm
 rintro a T ⟨⟨hJ,rfl⟩,hal⟩
 simp only[push_cast,hal,Tryz.f72,↓WX,simprocAttr]
 exact hJ
end
end Go.Proofs.YtaklebjoenophaaGreat.Dm
