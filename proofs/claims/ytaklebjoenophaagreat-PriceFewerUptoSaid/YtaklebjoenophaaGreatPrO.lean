/-
  The pairs of a journey: the program, exactly.
-/
import Derived.Test.YtaklebjoenophaaGreatPrN
set_option maxHeartbeats 64000000
set_option maxRecDepth 100000
set_option linter.unusedSimpArgs false
set_option linter.unusedVariables false
namespace Go.Proofs.YtaklebjoenophaaGreat.Dm
open Go Gw
def encB (b:Bool):List D:=[.bool b]
theorem mkB {S:List Ob} {n:Nat} (hn:n<=100000):dMakeSlice Tryz.prog S 191 n n=some (.os S.length 0 n false,S++[.row 1 ((List.replicate n false).map encB)]):=by
 have h1:elemT Tryz.prog 191=some 4:=by kernel_rfl
 have h2:sizeT Tryz.prog 4=some 1:=by kernel_rfl
 have h3:zeroT Tryz.prog 4=some (.bool false):=by kernel_rfl
 have h4:bytesT Tryz.prog 4=1:=by kernel_rfl
 unfold dMakeSlice
 rw[h1]
 dsimp only
 rw[h2,h3]
 dsimp only
 rw[h4,if_pos,Int.toNat_natCast]
 ·rw[List.map_replicate]
  rfl
 ·refine⟨by omega,by omega,?_,by omega,rfl,rfl⟩
  have:((1:Nat):Int)*(n:Int)<=140737488355328:=by omega
  exact this
theorem prdF_add {ps:List (Int×Int)} {i k:Int} (j:Int):prdF (ps++[(i,k)]) j=(prdF ps j || (decide (i=j) || decide (k=j))):=by
 unfold prdF
 rw[List.any_append,List.any_cons,List.any_nil,Bool.or_false]
section
variable {n : Nat}
theorem PPairs_d {S:List Ob} (t:Trf) {d:D} {l:List Prt} (h:LR 4 Prt.enc S d l) (hl:l.length<=900) (hn:3000<=n):
  WO (dcall E (n+1) 71 [.agg t.enc,d] S) λr T=>ExtS S T/\∃d',r=.tup [d',.int .i64 (pairsF t l).2]/\GL 2 encPr T d' (pairsF t l).1:=by
 have hy:=lr_len Tryz.underlying37 h
 simp only[push_cast]at hy
 obtain⟨R0,hR0⟩:∃R0,R0=Ob.row 4 [t.enc]:=⟨_,rfl⟩
 have ck:=Ppriced_x (n:=n) t (h.ext (extS_app (J:=[R0]))) (by omega) (by omega)
 unfold pairsF
 have hk:l.all (knoF t)=true->∀x∈l,knoF t x=true:=λh=>List.all_eq_true.1 h
 have ap:∀ {T:List Ob} {d:D} {cs:List (Int×Int)},GL 2 encPr T d cs->cs.length<=100000->∀s:Int×Int,∃S',dAppend Tryz.prog T 38 38 d (.sl 2 [[.int .i64 s.1,.int .i64 s.2]] true)=some (.os T.length 0 (cs.length+1) false,S')/\GL 2 encPr S' (.os T.length 0 (cs.length+1) false) (cs++[s])/\S'.length=T.length+1/\(∀k o,(∀n,d=.os k 0 n false->False)->T[k]?=some o->S'[k]?=some o):=λh hc s=>by
  obtain⟨S',a1,a2,a3,a4,-⟩:=app_gl (t:=38) (e:=91) (z:=.agg [.int .i64 0,.int .i64 0]) (n:=1) (by kernel_rfl) (by kernel_rfl) (by kernel_rfl) rfl (Nat.le_of_ble_eq_true (by kernel_rfl)) h hc s
  exact⟨S',a1,a2,a3,a4⟩
 generalize l.all (knoF t)=kb at*
 obtain⟨q,hq⟩:∃q,q=prsF t 0 l []:=⟨_,rfl⟩
 rw[<-hq]
 have cbk:=λu v=>Pback_x (n:=n) u v (by omega)
 simp only[Trf.enc,Far.enc]at ck cbk hR0 ⊢
 refine wo_dcall Tryz.func71 rfl (by decide) rfl 84 rfl (λa hal ha=>?_)
 have h0:a[0]?=some _:=ha 0 (by simp)
 have h1:a[1]?=some _:=ha 1 (by simp)
 clear ha
 refine wc_scut (λa V=>V=S++[R0]/\a.length=84/\a[1]?=some (d)/\a[2]?=some (.loc S.length 0 0)) ?_ ?_
 ·simp only[push_cast,hal,h0,h1,hR0,↓WX,simprocAttr]
 rintro a V ⟨rfl,hal,h1,h2⟩
 have gR:(S++[R0])[S.length]?=some (Ob.row 4 [[.sl 9 (t.fares.map Far.enc) t.fx,.sl 15 (t.rules.map Rul.enc) t.rx,.sl 3 (t.rous.map Rou.enc) t.ox,.sl 7 (t.taxes.map Tx.enc) t.tx]]):=by rw[hR0];exact get_end
 have hXS:ExtS S (S++[R0]):=extS_app
 generalize S++[R0]=V0 at*
 cases kb
 ·simp only[push_cast,hal,h1,h2,gR,ck,Yr,Tryz.f71,↓WX,simprocAttr,WY]
  exact⟨hXS,_,rfl,GL.nil⟩
 simp only[if_true]
 have hk:=hk rfl
 refine wc_scut (λa V=>V=V0/\a.length=84/\a[1]?=some (d)/\a[2]?=some (.loc S.length 0 0)) ?_ ?_
 ·simp only[push_cast,hal,h1,h2,gR,ck,↓WX,simprocAttr,WY]
 rintro a V ⟨rfl,hal,h1,h2⟩
 refine wc_scut (λa W=>W=V/\a.length=84/\a[1]?=some (d)/\a[2]?=some (.loc S.length 0 0)/\a[6]?=some (.nils)) ?_ ?_
 ·simp only[push_cast,hal,h1,h2,↓WX,simprocAttr]
 rintro a W ⟨rfl,hal,h1,h2,h6⟩
 have mk:=mkB (S:=W) (n:=l.length) (by omega)
 refine wc_scut (λa V=>V=W++[.row 1 ((List.replicate l.length false).map encB)]/\a.length=84/\a[1]?=some (d)/\a[2]?=some (.loc S.length 0 0)/\a[6]?=some (.nils)/\a[7]?=some (.os W.length 0 l.length false)) ?_ ?_
 ·simp only[push_cast,hal,h1,h2,h6,hy,mk,↓WX,simprocAttr]
 rintro a V ⟨hV,hal,h1,h2,h6,h7⟩
 have hVx:ExtS W V:=by rw[hV];exact extS_app
 have hVb:V[W.length]?=some (.row 1 ((List.replicate l.length false).map encB)):=by rw[hV];exact get_end
 have hWS:S.length<W.length:=(Ya.1 gR).1
 clear hV mk
 refine wc_rcut (λa T=>(ExtS W T/\∃dp ps,a[6]?=some dp/\GL 2 encPr T dp ps/\q=some ps)/\a.length=84/\a[1]?=some (d)/\a[2]?=some (.loc S.length 0 0)) ?_ ?_
 ·simp only[push_cast,hal,h1,hy,↓WX,simprocAttr]
  refine wl_loop (λi a T=>(ExtS W T/\(∃bs:List Bool,bs.length=l.length/\T[W.length]?=some (.row 1 (bs.map encB))/\∃dp ps,a[6]?=some dp/\GL 2 encPr T dp ps/\ps.length<=i/\q=prsF t i (l.drop i) ps/\(∀k n,dp=.os k 0 n false->W.length<k)/\(∀p∈ps,p.1<i)/\∀j:Nat,i<=j->j<l.length->bs[j]?=some (prdF ps j)))/\a.length=84/\a[1]?=some (d)/\a[2]?=some (.loc S.length 0 0)/\a[7]?=some (.os W.length 0 l.length false)/\a[19]?=some (d)/\a[20]?=some (.int .i64 l.length)/\a[21]?=some (.int .i64 i)) l.length ?_ (by omega) ?_
  ·simp only[push_cast,hal,h1,h2,h6,h7,simprocAttr,WY]
   exact⟨hVx,_,List.length_replicate,hVb,_,[],rfl,GL.nil,Yt _,hq,λk n h=>(by cases h),λp hp=>(by cases hp),λj _ hj=>by rw[List.getElem?_replicate,if_pos hj];rfl⟩
  clear hq ck hVb hVx
  rintro i a T hi ⟨⟨hXT,bs,hbl,hTb,dp,ps,h6,hg,hpl,e0,hdk,hp1,hbs⟩,hal,h1,h2,h7,h19,h20,h21⟩
  have gT:=hXT _ _ gR
  rcases Yf hi with hlt |rfl
  case inr=>
   rw[Zt,prsF]at e0
   simp only[push_cast,hal,h1,h2,h6,h20,h21,↓WX,simprocAttr,WY]
   exact⟨hXT,_,_,rfl,hg,e0⟩
  have hltc:(i:Int)<l.length:=by omega
  obtain⟨x,hx⟩:∃x,l[i]?=some x:=⟨l[i],by simp⟩
  obtain⟨fx1,fx2,fx3⟩:=knoF_far (hk x (Yg hx))
  have fx1':(0<=x.fa)=True:=eq_true fx1
  have hbi:=hbs i (Yt _) hlt
  have hT0:W.length<T.length:=(Ya.1 hTb).1
  rw[drop_at hx,prsF]at e0
  generalize farF t x=f at*
  refine wc_scut (λa V=>V=T/\a.length=84/\a[1]?=some (d)/\a[2]?=some (.loc S.length 0 0)/\a[6]?=some (dp)/\a[7]?=some (.os W.length 0 l.length false)/\a[19]?=some (d)/\a[20]?=some (.int .i64 l.length)/\a[21]?=some (.int .i64 i)/\a[22]?=some (.bool true)) ?_ ?_
  ·simp only[push_cast,hal,h1,h2,h6,h7,h19,h20,h21,hltc,↓WX,simprocAttr]
  rintro a V ⟨rfl,hal,h1,h2,h6,h7,h19,h20,h21,h22⟩
  refine wc_scut (λa T=>T=V/\a.length=84/\a[1]?=some (d)/\a[2]?=some (.loc S.length 0 0)/\a[6]?=some (dp)/\a[7]?=some (.os W.length 0 l.length false)/\a[19]?=some (d)/\a[20]?=some (.int .i64 l.length)/\a[21]?=some (.int .i64 i)) ?_ ?_
  ·simp only[push_cast,hal,h1,h2,h6,h7,h19,h20,h21,h22,↓WX]
  rintro a T ⟨rfl,hal,h1,h2,h6,h7,h19,h20,h21⟩
  rw[wc_seq,wc_block]
  refine wc_scut (λa V=>V=T++[.row 4 [[.int .i64 x.fr,.int .i64 x.to,.int .i64 x.fa,.int .i64 x.am]]]/\a.length=84/\a[1]?=some (d)/\a[2]?=some (.loc S.length 0 0)/\a[6]?=some (dp)/\a[7]?=some (.os W.length 0 l.length false)/\a[8]?=some (.int .i64 i)/\a[9]?=some (.loc T.length 0 0)/\a[19]?=some (d)/\a[20]?=some (.int .i64 l.length)/\a[21]?=some (.int .i64 i)) ?_ ?_
  ·have hap:=apl (enc:=Prt.enc) hx
   rcases h with ⟨-,rfl⟩ | ⟨lx,rfl,hk0⟩ | ⟨kk,es,rfl,hk0⟩
   ·cases hx
   case' inr.inr=>
    have hk0:T[kk]?=some (.row 4 (l.map Prt.enc++es)):=by
     have:=hk0 []
     rw[Za]at this
     exact hXT _ _ (hXS _ _ this)
   all_goals
    simp only[push_cast,hal,h1,h2,h6,h7,h19,h20,h21,hap,hk0,hlt,hx,set_end,get_end,Prt.enc,↓WX,simprocAttr]
  rintro a V ⟨hV,hal,h1,h2,h6,h7,h8,h9,h19,h20,h21⟩
  have hTV:ExtS T V:=by rw[hV];exact extS_app
  have gx:V[T.length]?=some (.row 4 [[.int .i64 x.fr,.int .i64 x.to,.int .i64 x.fa,.int .i64 x.am]]):=by rw[hV];exact get_end
  have hVl:V.length=T.length+1:=by rw[hV,Yd];rfl
  clear hV
  have vR:=hTV _ _ gT
  refine wc_scut (λa U=>U=V++[.row 9 [[.str f.car,.str f.frm,.str f.dst,.str f.bas,.str f.cls,.bool f.rnd,.int .i64 f.amt,.int .i64 f.rul,.int .i64 f.rou]]]/\a.length=84/\a[1]?=some (d)/\a[2]?=some (.loc S.length 0 0)/\a[6]?=some (dp)/\a[7]?=some (.os W.length 0 l.length false)/\a[8]?=some (.int .i64 i)/\a[10]?=some (.loc V.length 0 0)/\a[19]?=some (d)/\a[20]?=some (.int .i64 l.length)/\a[21]?=some (.int .i64 i)) ?_ ?_
  ·simp only[push_cast,hal,h1,h2,h6,h7,h8,h9,h19,h20,h21,gx,vR,fx1',fx3,set_end,get_end,Far.enc,↓WX,simprocAttr]
  rintro a U ⟨hU,hal,h1,h2,h6,h7,h8,h10,h19,h20,h21⟩
  have hVU:ExtS V U:=by rw[hU];exact extS_app
  have hTU:ExtS T U:=λk o ho=>hVU _ _ (hTV _ _ ho)
  have gf:U[V.length]?=some (.row 9 [[.str f.car,.str f.frm,.str f.dst,.str f.bas,.str f.cls,.bool f.rnd,.int .i64 f.amt,.int .i64 f.rul,.int .i64 f.rou]]):=by rw[hU];exact get_end
  have hUl:U.length=T.length+2:=by rw[hU,Yd,hVl];rfl
  clear hU gx vR
  have uR:=hTU _ _ gT
  have ub:=hTU _ _ hTb
  have ug:GL 2 encPr U dp ps:=hg.imp id λ⟨k,e,g⟩=>⟨k,e,hTU _ _ g⟩
  have hWU:=λk o (ho:W[k]?=some o)=>hTU _ _ (hXT k o ho)
  obtain⟨kf,hkf⟩:∃kf,kf=V.length:=⟨_,rfl⟩
  rw[<-hkf]at gf h10
  clear hkf hVU hTV hVl
  have hbil:i<bs.length:=by omega
  have hUk:∀k n,dp=.os k 0 n false->W.length<k:=hdk
  have hql:∀p∈ps,p.1<((i+1:Nat):Int):=λp hp=>by have:=hp1 p hp;omega
  generalize hbp:prdF ps i=bp at*
  cases hr:f.rnd
  ·simp only[hr,Bool.not_false,Bool.true_or,if_true]at e0
   simp(maxSteps:=1000000)(disch:=omega)only[push_cast,hal,h1,h2,h6,h7,h10,h19,h20,h21,gf,ub,hr,hlt,Bool.not_false,wrap_ok,Int.natCast_add,Int.natCast_one,↓WX,simprocAttr]
   exact⟨hWU,bs,hbl,rfl,_,_,rfl,ug,by omega,e0,hdk,λp hp=>by have:=hp1 p hp;omega,λj h1 h2=>hbs j (by omega) h2⟩
  cases bp
  case true=>
   simp only[hr,Bool.or_true,if_true]at e0
   simp(maxSteps:=1000000)(disch:=omega)only[push_cast,hal,h1,h2,h6,h7,h8,h10,h19,h20,h21,gf,ub,hr,hlt,hbi,Bool.not_true,encB,wrap_ok,Int.natCast_add,Int.natCast_one,↓WX,simprocAttr]
   exact⟨hWU,bs,hbl,rfl,_,_,rfl,ug,by omega,e0,hdk,λp hp=>by have:=hp1 p hp;omega,λj h1 h2=>hbs j (by omega) h2⟩
  simp only[hr,Bool.not_true,Bool.false_or,Yr,if_false]at e0
  refine wc_scut (λa V=>V=U/\a.length=84/\a[1]?=some (d)/\a[2]?=some (.loc S.length 0 0)/\a[6]?=some (dp)/\a[7]?=some (.os W.length 0 l.length false)/\a[8]?=some (.int .i64 i)/\a[10]?=some (.loc kf 0 0)/\a[19]?=some (d)/\a[20]?=some (.int .i64 l.length)/\a[21]?=some (.int .i64 i)) ?_ ?_
  ·simp only[push_cast,hal,h1,h2,h6,h7,h8,h10,h19,h20,h21,gf,ub,hr,hlt,hbi,encB,↓WX,simprocAttr,WY]
  rintro a V ⟨rfl,hal,h1,h2,h6,h7,h8,h10,h19,h20,h21⟩
  refine wc_scut (λa U=>U=V/\a.length=84/\a[1]?=some (d)/\a[2]?=some (.loc S.length 0 0)/\a[6]?=some (dp)/\a[7]?=some (.os W.length 0 l.length false)/\a[8]?=some (.int .i64 i)/\a[10]?=some (.loc kf 0 0)/\a[11]?=some (.int .i64 ((i+1:Nat):Int))/\a[19]?=some (d)/\a[20]?=some (.int .i64 l.length)/\a[21]?=some (.int .i64 i)) ?_ ?_
  ·simp(maxSteps:=1000000)(disch:=omega)only[push_cast,hal,h1,h2,h6,h7,h8,h10,h19,h20,h21,wrap_ok,Int.natCast_add,Int.natCast_one,↓WX,simprocAttr]
  rintro a U ⟨rfl,hal,h1,h2,h6,h7,h8,h10,h11,h19,h20,h21⟩
  obtain⟨z,hz⟩:∃z,z=prtF t ps f (i+1) (l.drop (i+1)):=⟨_,rfl⟩
  rw[<-hz]at e0
  refine wc_scut (λa V=>(V=U/\∃K:Nat,i+1<=K/\a[11]?=some (.int .i64 K)/\((z<0/\K=l.length)∨(z=K/\K<l.length)))/\a.length=84/\a[1]?=some (d)/\a[2]?=some (.loc S.length 0 0)/\a[6]?=some (dp)/\a[7]?=some (.os W.length 0 l.length false)/\a[8]?=some (.int .i64 i)/\a[19]?=some (d)/\a[20]?=some (.int .i64 l.length)/\a[21]?=some (.int .i64 i)) ?_ ?_
  ·simp only[push_cast,↓WX]
   refine wl_loop (λm a V=>(V=U/\∃K:Nat,K=i+1+m/\a[11]?=some (.int .i64 K)/\z=prtF t ps f K (l.drop K))/\a.length=84/\a[1]?=some (d)/\a[2]?=some (.loc S.length 0 0)/\a[6]?=some (dp)/\a[7]?=some (.os W.length 0 l.length false)/\a[8]?=some (.int .i64 i)/\a[10]?=some (.loc kf 0 0)/\a[19]?=some (d)/\a[20]?=some (.int .i64 l.length)/\a[21]?=some (.int .i64 i)) (l.length-(i+1)) ?_ (by omega) ?_
   ·simp only[push_cast,hal,h1,h2,h6,h7,h8,h10,h11,h19,h20,h21]
    exact⟨_,rfl,rfl,hz⟩
   clear hz
   rintro m a V hm ⟨⟨rfl,K,hK,h11,ez⟩,hal,h1,h2,h6,h7,h8,h10,h19,h20,h21⟩
   have hyV:=hy V
   by_cases hKl:K<l.length
   case neg=>
    obtain rfl:K=l.length:=by omega
    rw[Zt,prtF]at ez
    simp only[push_cast,hal,h1,h2,h6,h7,h8,h11,h19,h20,h21,hyV,↓WX,simprocAttr,WY]
    exact⟨_,by omega,rfl,.inl ⟨by omega,rfl⟩⟩
   have hKc:(K:Int)<l.length:=by omega
   obtain⟨y,hyK⟩:∃y,l[K]?=some y:=⟨l[K],by simp⟩
   obtain⟨fy1,fy2,fy3⟩:=knoF_far (hk y (Yg hyK))
   have fy1':(0<=y.fa)=True:=eq_true fy1
   have hbK:=hbs K (by omega) hKl
   have hKb:K<bs.length:=by omega
   have cb:=cbk f (farF t y)
   have hrt:rtnF f (farF t y)=bckF f (farF t y):=by unfold rtnF bckF;rw[hr,Bool.true_and]
   rw[drop_at hyK,prtF,hrt]at ez
   generalize farF t y=g at*
   generalize prdF ps K=bK at*
   generalize bckF f g=bb at*
   have hmm:m<l.length-(i+1):=by omega
   have hap:=apl (enc:=Prt.enc) hyK
   rcases h with ⟨-,rfl⟩ | ⟨lx,rfl,hk0⟩ | ⟨kk,es,rfl,hk0⟩
   ·cases hyK
   case' inr.inr=>
    have hk0:V[kk]?=some (.row 4 (l.map Prt.enc++es)):=by
     have:=hk0 []
     rw[Za]at this
     exact hWU _ _ (hXS _ _ this)
   all_goals
    cases bK
    ·cases bb
     ·simp only[Bool.not_false,Bool.and_false,Yr,if_false]at ez
      simp(maxSteps:=1000000)(disch:=omega)only[push_cast,hal,h1,h2,h6,h7,h8,h10,h11,h19,h20,h21,hap,hk0,hKc,hyK,hbK,ub,uR,gf,cb,fy1',fy3,hmm,Bool.not_false,Prt.enc,Far.enc,encB,wrap_ok,↓WX,simprocAttr]
      exact⟨K+1,by omega,by push_cast<;>rfl,ez⟩
     ·simp only[Bool.not_false,Bool.and_self,if_true]at ez
      simp only[push_cast,hal,h1,h2,h6,h7,h8,h10,h11,h19,h20,h21,hap,hk0,hKc,hyK,hbK,ub,uR,gf,cb,fy1',fy3,Prt.enc,Far.enc,encB,↓WX,simprocAttr,WY]
      exact⟨K,by omega,rfl,.inr ⟨ez,hKl⟩⟩
    ·simp only[Bool.not_true,Bool.false_and,Yr,if_false]at ez
     simp(maxSteps:=1000000)(disch:=omega)only[push_cast,hal,h1,h2,h6,h7,h8,h10,h11,h19,h20,h21,hKc,hbK,ub,hmm,encB,wrap_ok,↓WX,simprocAttr]
     exact⟨K+1,by omega,by push_cast<;>rfl,ez⟩
  clear hz
  rintro a V ⟨⟨rfl,K,hK1,h11,hKz⟩,hal,h1,h2,h6,h7,h8,h19,h20,h21⟩
  have hyV:=hy V
  rcases hKz with ⟨hz0,rfl⟩ | ⟨rfl,hKl⟩
  ·rw[if_pos hz0]at e0
   subst e0
   simp only[push_cast,hal,h1,h2,h11,hyV,Tryz.f71,↓WX,simprocAttr,WY]
   exact⟨λk o ho=>hWU _ _ (hXS _ _ ho),_,rfl,GL.nil⟩
  rw[if_neg (by omega)]at e0
  have hKne:((K:Int)=l.length)=False:=eq_false (by omega)
  have hKb:K<bs.length:=by omega
  have hub:W.length<V.length:=(Ya.1 ub).1
  obtain⟨U,hU⟩:∃U,U=V.set W.length (.row 1 ((bs.set K true).map encB)):=⟨_,rfl⟩
  have hU1:V.set W.length (.row 1 ((bs.map encB).set K [.bool true]))=U:=by rw[hU,List.map_set];rfl
  have u2:U[W.length]?=some (.row 1 ((bs.set K true).map encB)):=by rw[hU];exact Yo hub
  have u3:∀k,k≠W.length->U[k]?=V[k]? :=λk hk=>by rw[hU,Yc (λe=>hk e.symm)]
  have u4:GL 2 encPr U dp ps:=ug.imp id λ⟨k,e,g⟩=>⟨k,e,by rw[u3 k (by have:=hdk k _ e;omega)];exact g⟩
  have u5:U.length=V.length:=by rw[hU,Zg]
  clear hU
  obtain⟨S',a1,a2,a3,a4⟩:=ap u4 (by omega) ((i:Int),(K:Int))
  refine wc_scut (λa T=>T=V/\a.length=84/\a[1]?=some (d)/\a[2]?=some (.loc S.length 0 0)/\a[6]?=some (dp)/\a[7]?=some (.os W.length 0 l.length false)/\a[8]?=some (.int .i64 i)/\a[11]?=some (.int .i64 K)/\a[19]?=some (d)/\a[20]?=some (.int .i64 l.length)/\a[21]?=some (.int .i64 i)) ?_ ?_
  ·simp only[push_cast,hal,h1,h2,h6,h7,h8,h11,h19,h20,h21,hyV,hKne,↓WX,simprocAttr,WY]
  rintro a T' ⟨rfl,hal,h1,h2,h6,h7,h8,h11,h19,h20,h21⟩
  refine wc_scut (λa T=>T=U/\a.length=84/\a[1]?=some (d)/\a[2]?=some (.loc S.length 0 0)/\a[6]?=some (dp)/\a[7]?=some (.os W.length 0 l.length false)/\a[8]?=some (.int .i64 i)/\a[11]?=some (.int .i64 K)/\a[19]?=some (d)/\a[20]?=some (.int .i64 l.length)/\a[21]?=some (.int .i64 i)) ?_ ?_
  ·simp only[push_cast,hal,h1,h2,h6,h7,h8,h11,h19,h20,h21,ub,hKl,hU1,encB,Yq hKb,↓WX,simprocAttr]
  rintro a T' ⟨rfl,hal,h1,h2,h6,h7,h8,h11,h19,h20,h21⟩
  simp(maxSteps:=1000000)(disch:=omega)only[push_cast,hal,h1,h2,h6,h7,h8,h11,h19,h20,h21,a1,hlt,wrap_ok,Int.natCast_add,Int.natCast_one,↓WX,simprocAttr]
  refine⟨λk o ho=>a4 k o (λn hdn=>?_) ?_,bs.set K true,by rw[Zg];exact hbl,a4 _ _ (λn hdn=>?_) u2,_,_,rfl,a2,by rw[Yd,List.length_singleton];omega,e0,λk n hdn=>?_,λp hp=>?_,λj h1 h2=>?_⟩
  ·have:=hdk k n hdn
   have:=(Ya.1 ho).1
   omega
  ·rw[u3 k (by have:=(Ya.1 ho).1;omega)]
   exact hWU k o ho
  ·exact absurd (hdk _ _ hdn) (Zv _)
  ·obtain⟨rfl,-⟩:=D.os.inj hdn
   omega
  ·rcases List.mem_append.1 hp with hp |hp
   ·have:=hp1 p hp
    omega
   ·rw[List.mem_singleton.1 hp]
    dsimp only
    omega
  ·rw[prdF_add,Ym (show ¬((i:Int)=(j:Int)) by omega),Bool.false_or]
   have hb:=hbs j (by omega) h2
   by_cases e:K=j
   ·subst e
    rw[Yo hKb,Yn rfl,Bool.or_true]
   ·rw[Yc e,hb,Ym (by omega),Bool.or_false]
 rintro a T ⟨⟨hXT,dp,ps,h6,hg,rfl⟩,hal,h1,h2⟩
 simp only[push_cast,hal,h6,Tryz.f71,↓WX,simprocAttr]
 exact⟨λk o ho=>hXT _ _ (hXS _ _ ho),_,rfl,hg⟩
theorem PPairs_x {S:List Ob} (t:Trf) {d:D} {l:List Prt} (h:LR 4 Prt.enc S d l) (hl:l.length<=900) (hn:3001<=n):∃d' T,callD E (dcall E n) false S 71 [.agg t.enc,d]=some (.tup [d',.int .i64 (pairsF t l).2],T)/\ExtS S T/\LQ 2 encPr T d' (pairsF t l).1:=by
 obtain⟨m,rfl⟩:∃m,n=m+1:=⟨n-1,by omega⟩
 by_cases hp:d.pure=true
 ·obtain⟨_,T,ho,hx,d',rfl,hg⟩:=PPairs_d (n:=m) (S:=[]) t (h.pure0 hp).lr hl (by omega)
  obtain⟨d2,hf,hd⟩:=hg.flsN (encPrs_pure _) 37
  refine⟨d2,S,callD_pure rfl (by simp only[pureL_cons,pureL_nil,D.pure,Trf_pure,hp,Yj]) ho ?_,λ_ _ h=>h,hd.lq⟩
  exact freeze_tup2 hf
 ·obtain⟨_,T,ho,hx,d',rfl,hg⟩:=PPairs_d (n:=m) t h hl (by omega)
  exact⟨d',T,(callD_own rfl (by simp only[pureL_cons,pureL_nil,D.pure,Trf_pure,Yj,WY];simpa using hp)).trans ho,hx,hg.lq⟩
end
end Go.Proofs.YtaklebjoenophaaGreat.Dm
