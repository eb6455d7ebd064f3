/-
  Stays, and whether the components of a journey combine: the program, exactly.
-/
import Derived.Test.YtaklebjoenophaaGreatPrO
set_option maxHeartbeats 64000000
set_option maxRecDepth 100000
set_option linter.unusedSimpArgs false
set_option linter.unusedVariables false
namespace Go.Proofs.YtaklebjoenophaaGreat.Dm
open Go Gw
section
variable {n : Nat}
theorem PMixed_x {S:List Ob} (t:Trf) {d:D} {l:List Prt} (h:LR 4 Prt.enc S d l) (hl:l.length<=900) (hr:t.rules.length<=1048576) (hcb:∀r∈t.rules,r.comb.length<=1048576) (hn:1048901<=n):∀st,Yi E (Yb E n) st S 72 [.agg t.enc,d]=some (.int .i64 (mixedF t l),S):=by
 obtain⟨m,rfl⟩:∃m,n=m+1:=⟨n-1,by omega⟩
 exact obs_r (A:=λd=>[.agg t.enc,d]) rfl (Jr l) rfl (λd hd=>by simp only[Yc,Yg,D.pure,Ja,hd,Ua]) (λk n=>by simp only[Yc,Yg,D.pure,Bool.and_false,WY]) (λS h=>PMixed_d t h hl hr hcb (by omega)) h
theorem Pdepart_x (p:Plc) (hpa:p.aps.length<=1048576) (hsh:∀a∈p.aps,a.sh.length<=1048576) (hzo:∀a∈p.aps,ShOk a.sh) (w:List Wnt) (wx:Bool) (x:Prt) (hx:frOk w x=true) (hn:1048700<=n):∃v:Int,((dpF p (wntF w x)).2=0->v=(dpF p (wntF w x)).1)/\∀st S,Yi E (Yb E n) st S 132 [.agg p.enc,.sl 8 (w.map Wnt.enc) wx,.agg x.enc]=some (.tup [.int .i64 v,.bool (decide ((dpF p (wntF w x)).2=0))],S):=by
 obtain⟨m,rfl⟩:∃m,n=m+1:=⟨n-1,by omega⟩
 have hp:Yp [.agg p.enc,.sl 8 (w.map Wnt.enc) wx,.agg x.enc]=true:=by simp only[Yc,Yg,D.pure,Yt,Jd,Prt_pure,Ua]
 obtain⟨x1,x2,x3⟩:=frOk_at hx
 have x1':(0<=x.fr)=True:=eq_true x1
 generalize wntF w x=z at*
 have hfd:=λst S=>PFind_c (n:=m) (p:=p) (s:=z.fr) (by omega) (by omega) st S
 have hom:∀a,(p.aps.find? λa=>a.code.toList == z.fr.toList)=some a->a∈p.aps:=λa h=>List.mem_of_find?_eq_some h
 unfold dpF
 generalize (p.aps.find? λa=>a.code.toList == z.fr.toList)=o at*
 simp only[Plc.enc,Prt.enc]at hp hfd ⊢
 cases o with
 |none=>
  have hlo:=PLocal_x (n:=m) (by omega) 0 (sd:=.nils) (l:=[]) (.inl ⟨rfl,rfl⟩) (by simp) z.dep
  have hsp:=Psplit_x (n:=m) (by omega) (IntKind.i64.wrap (z.dep+ofsP z.dep 0 []))
  generalize IntKind.i64.wrap (z.dep+ofsP z.dep 0 [])=lo at*
  generalize dayF lo=dy at*
  simp only[Xy,zeroApt]at hfd
  refine⟨dy,λh=>(by cases h),?_⟩
  have:WO (Yb E (m+1) 132 [.agg [.sl 5 (p.aps.map Apt.enc) p.apsx,.sl 3 (p.dts.map Dst.enc) p.dtsx],.sl 8 (w.map Wnt.enc) wx,.agg [.int .i64 x.fr,.int .i64 x.to,.int .i64 x.fa,.int .i64 x.am]] []) λr T=>r=.tup [.int .i64 dy,.bool false]:=by
   refine Ye Tryz.func132 rfl (by decide) rfl 37 rfl (λa hal ha=>?_)
   obtain⟨h0,h1,h2⟩:=aQ3 ha
   clear ha
   simp only[push_cast,hal,h0,h1,h2,x1',x3,hfd,hlo,hsp,Wnt.enc,Tryz.f132,↓WX,simprocAttr]
  obtain⟨_,T,ho,rfl⟩:=this
  exact λst S=>Yd rfl hp ho rfl
 |some a=>
  have hlo:=PLocal_x (n:=m) (by omega) a.off (zsh_fls (some a)) (hsh a (hom a rfl)) z.dep
  rw[show IntKind.i64.wrap (z.dep+ofsP z.dep a.off (zshs (some a)))=locP (some a) z.dep from rfl,loc_eq (λb hb=>by obtain rfl:=Kz hb;exact hzo a (hom a rfl))]at hlo
  have hsp:=Psplit_x (n:=m) (by omega) (locF (some a) z.dep)
  simp only[Xy,Apt.enc]at hfd
  simp only[zshD]at hlo
  dsimp only
  generalize locF (some a) z.dep=lo at*
  generalize dayF lo=dy at*
  refine⟨dy,λ_=>rfl,?_⟩
  have:WO (Yb E (m+1) 132 [.agg [.sl 5 (p.aps.map Apt.enc) p.apsx,.sl 3 (p.dts.map Dst.enc) p.dtsx],.sl 8 (w.map Wnt.enc) wx,.agg [.int .i64 x.fr,.int .i64 x.to,.int .i64 x.fa,.int .i64 x.am]] []) λr T=>r=.tup [.int .i64 dy,.bool true]:=by
   refine Ye Tryz.func132 rfl (by decide) rfl 37 rfl (λa hal ha=>?_)
   obtain⟨h0,h1,h2⟩:=aQ3 ha
   clear ha
   simp only[push_cast,hal,h0,h1,h2,x1',x3,hfd,hlo,hsp,Wnt.enc,Tryz.f132,↓WX,simprocAttr]
  obtain⟨_,T,ho,rfl⟩:=this
  exact λst S=>Yd rfl hp ho rfl
theorem PStays_d {S:List Ob} (p:Plc) (hpa:p.aps.length<=1048576) (hsh:∀a∈p.aps,a.sh.length<=1048576) (hzo:∀a∈p.aps,ShOk a.sh) (t:Trf) (hr:t.rules.length<=1048576) (w:List Wnt) (wx:Bool) {d:D} {l:List Prt} (h:LR 4 Prt.enc S d l) (hl:l.length<=900) (hn:1048900<=n):
  WO (Yb E (n+1) 73 [.agg p.enc,.agg t.enc,.sl 8 (w.map Wnt.enc) wx,d] S) λr T=>r=.int .i64 (staysF p t w l)/\∃J,T=S++J:=by
 have hy:=lr_len Tryz.underlying37 h
 simp only[push_cast]at hy
 obtain⟨R0,hR0⟩:∃R0,R0=Ob.row 2 [p.enc]:=⟨_,rfl⟩
 obtain⟨R1,hR1⟩:∃R1,R1=Ob.row 4 [t.enc]:=⟨_,rfl⟩
 have cpa:=λ{T:List Ob} (hx:ExtS S T)=>PPairs_x (n:=n) t (h.ext hx) hl (by omega)
 have hkn:=pairsF_kno (t:=t) (l:=l)
 have hmem:=pairsF_mem (t:=t) (l:=l)
 have hpl:=pairsF_len (t:=t) (l:=l)
 obtain⟨q,hq⟩:∃q,q=staysF p t w l:=⟨_,rfl⟩
 rw[<-hq]
 unfold staysF at hq
 generalize hpe:(Xq t l).2=pe at*
 generalize (Xq t l).1=ps at*
 have cdp:=λx hx=>Pdepart_x (n:=n) p hpa hsh hzo w wx x hx (by omega)
 have crl:=λx hx=>PruleOf_x (n:=n) t x hx hr (by omega)
 have cst:=λo u v=>PStay_x (n:=n) o u v (by omega)
 simp only[Plc.enc,Trf.enc,Prt.enc]at cpa cdp crl hR0 hR1 ⊢
 refine Ye Tryz.func73 rfl (by decide) rfl 100 rfl (λa hal ha=>?_)
 obtain⟨h0,h1,h2,h3⟩:=aQ4 ha
 clear ha
 refine Ya (λa V=>V=S++[R0]++[R1]/\gQ a 100 (a[5]?=some (.loc (S.length+1) 0 0)) [(2,.sl 8 (w.map Wnt.enc) wx),(3,d),(4,.loc S.length 0 0)]) ?_ ?_
 ·simp only[push_cast,hal,h0,h1,h2,h3,hR0,hR1,Ku,Uu,↓WX,simprocAttr]
 rintro a V ⟨rfl,hal,h2,h3,h4,h5⟩
 have gP:(S++[R0]++[R1])[S.length]?=some (Ob.row 2 [[.sl 5 (p.aps.map Apt.enc) p.apsx,.sl 3 (p.dts.map Dst.enc) p.dtsx]]):=by rw[hR0];exact end0
 have gT:(S++[R0]++[R1])[S.length+1]?=some (Ob.row 4 [[.sl 9 (t.fares.map Far.enc) t.fx,.sl 15 (t.rules.map Rul.enc) t.rx,.sl 3 (t.rous.map Rou.enc) t.ox,.sl 7 (t.taxes.map Tx.enc) t.tx]]):=by rw[hR1];exact end1
 have hJV:∃J,S++[R0]++[R1]=S++J:=⟨[R0,R1],by simp⟩
 generalize S++[R0]++[R1]=V0 at*
 have hSV:∀J,ExtS S (V0++J):=λJ=>by obtain⟨K,rfl⟩:=hJV;exact λ_ _ h=>Ym (Ym h)
 have hSJ:∀J,∃K,V0++J=S++K:=λJ=>by obtain⟨K,rfl⟩:=hJV;exact⟨K++J,Vg ..⟩
 obtain⟨b,hb⟩:∃b,b=l.all (frOk w):=⟨_,rfl⟩
 rw[<-hb]at hq
 refine Za (λa V=>((∃J,V=V0++J)/\b=true)/\gQ a 100 (a[5]?=some (.loc (S.length+1) 0 0)) [(2,.sl 8 (w.map Wnt.enc) wx),(3,d),(4,.loc S.length 0 0)]) ?_ ?_
 ·simp only[push_cast,hal,h3,hy,↓WX,simprocAttr]
  refine Yk (λi a T=>((∃J,T=V0++J)/\b=(l.drop i).all (frOk w))/\a.length=100/\a[2]?=some (.sl 8 (w.map Wnt.enc) wx)/\a[3]?=some (d)/\a[4]?=some (.loc S.length 0 0)/\a[5]?=some (.loc (S.length+1) 0 0)/\a[22]?=some (d)/\a[23]?=some (.int .i64 l.length)/\a[24]?=some (.int .i64 i)) l.length ?_ (by omega) ?_
  ·simp only[push_cast,hal,h2,h3,h4,h5,simprocAttr,WY]
   exact⟨⟨[],(Ur _).symm⟩,hb⟩
  clear hb
  rintro i a T hi ⟨⟨⟨J,rfl⟩,e⟩,hal,h2,h3,h4,h5,h22,h23,h24⟩
  rcases Kw hi with hlt |rfl
  case inr=>
   rw[Vj,List.all_nil]at e
   simp only[push_cast,hal,h2,h3,h4,h5,h23,h24,↓WX,simprocAttr,WY]
   exact⟨⟨_,rfl⟩,e⟩
  have hltc:(i:Int)<l.length:=by omega
  obtain⟨x,hx⟩:∃x,l[i]?=some x:=⟨l[i],by simp⟩
  rw[Yu hx,List.all_cons]at e
  unfold frOk at e
  refine Ya (λa V=>V=V0++J/\gQ a 100 (a[25]?=some (.bool true)) [(2,.sl 8 (w.map Wnt.enc) wx),(3,d),(4,.loc S.length 0 0),(5,.loc (S.length+1) 0 0),(22,d),(23,.int .i64 l.length),(24,.int .i64 i)]) ?_ ?_
  ·simp only[push_cast,hal,h2,h3,h4,h5,h22,h23,h24,hltc,↓WX,simprocAttr]
  rintro a V ⟨rfl,hal,h2,h3,h4,h5,h22,h23,h24,h25⟩
  refine Ya (λa V=>V=V0++J/\gQ a 100 (a[24]?=some (.int .i64 i)) [(2,.sl 8 (w.map Wnt.enc) wx),(3,d),(4,.loc S.length 0 0),(5,.loc (S.length+1) 0 0),(22,d),(23,.int .i64 l.length)]) ?_ ?_
  ·simp only[push_cast,hal,h2,h3,h4,h5,h22,h23,h24,h25,↓WX]
  rintro a V ⟨rfl,hal,h2,h3,h4,h5,h22,h23,h24⟩
  rw[Zx,Yx]
  refine Ya (λa W=>(∃kx J,a[10]?=some (.loc kx 0 0)/\W[kx]?=some (.row 4 [[.int .i64 x.fr,.int .i64 x.to,.int .i64 x.fa,.int .i64 x.am]])/\W=V0++J)/\gQ a 100 (a[24]?=some (.int .i64 i)) [(2,.sl 8 (w.map Wnt.enc) wx),(3,d),(4,.loc S.length 0 0),(5,.loc (S.length+1) 0 0),(22,d),(23,.int .i64 l.length)]) ?_ ?_
  ·have hap:=apl (enc:=Prt.enc) hx
   rcases h.ext (hSV J) with ⟨-,rfl⟩ | ⟨lx,rfl,hk0⟩ | ⟨kk,es,rfl,hk0⟩
   ·cases hx
   case' inr.inr=>have hk0:=hk0 [];rw[Ur]at hk0
   all_goals
    simp only[push_cast,hal,h2,h3,h4,h5,h22,h23,h24,hap,hk0,hlt,hx,Yq,Yl,Prt.enc,↓WX,simprocAttr]
    exact⟨_,_,rfl,Yl,Vg ..⟩
  clear J
  rintro a W ⟨⟨kx,J,h10,gx,rfl⟩,hal,h2,h3,h4,h5,h22,h23,h24⟩
  have hSJ':=hSJ J
  have hVJ':∃K,V0++J=V0++K:=⟨_,rfl⟩
  generalize V0++J=W at*
  by_cases c1:x.fr<0
  ·simp only[Ue c1,Bool.true_or,WY]at e
   subst e
   simp only[Ui,if_false]at hq
   subst hq
   simp only[push_cast,hal,h10,gx,c1,Tryz.f73,↓WX,simprocAttr,WY]
   exact hSJ'
  by_cases c2:x.fr>=w.length
  ·simp only[Ue c2,Bool.or_true,WY]at e
   subst e
   simp only[Ui,if_false]at hq
   subst hq
   have c2':((w.length:Int)<=x.fr)=True:=eq_true c2
   simp only[push_cast,hal,h2,h10,gx,c1,c2',Tryz.f73,↓WX,simprocAttr,WY]
   exact hSJ'
  ·simp only[Ud c1,Ud c2,Bool.or_false,WY]at e
   have c2':((w.length:Int)<=x.fr)=False:=eq_false c2
   simp(disch:=omega)only[push_cast,hal,h2,h3,h4,h5,h10,h22,h23,h24,gx,hlt,c1,c2',Yf,↓WX,simprocAttr,WY]
   exact⟨hVJ',e⟩
 rintro a V ⟨⟨⟨J,rfl⟩,rfl⟩,hal,h2,h3,h4,h5⟩
 simp only[if_true]at hq
 have hfr:∀x∈l,frOk w x=true:=List.all_eq_true.1 hb.symm
 obtain⟨dp,U,cpa,hXU,hlp⟩:=cpa (hSV J)
 have hXS:ExtS S U:=λk o ho=>hXU _ _ (hSV J _ _ ho)
 have hyp:=lq_len Tryz.underlying38 hlp
 simp only[push_cast]at hyp
 have gT':(V0++J)[S.length+1]?=some (Ob.row 4 [[.sl 9 (t.fares.map Far.enc) t.fx,.sl 15 (t.rules.map Rul.enc) t.rx,.sl 3 (t.rous.map Rou.enc) t.ox,.sl 7 (t.taxes.map Tx.enc) t.tx]]):=Ym gT
 refine Ya (λa W=>W=U/\gQ a 100 (a[12]?=some (.int .i64 pe)) [(2,.sl 8 (w.map Wnt.enc) wx),(3,d),(4,.loc S.length 0 0),(5,.loc (S.length+1) 0 0),(11,dp)]) ?_ ?_
 ·simp only[push_cast,hal,h2,h3,h4,h5,gT',cpa,↓WX,simprocAttr]
 rintro a W ⟨rfl,hal,h2,h3,h4,h5,h11,h12⟩
 obtain⟨JU,hJU⟩:=extS_pre hXS
 by_cases c:pe=0
 case neg=>
  rw[if_neg c]at hq
  subst hq
  simp only[push_cast,Vo,hal,h12,c,Tryz.f73,↓WX,simprocAttr]
  exact⟨_,hJU⟩
 rw[if_pos c]at hq
 have hkn2:=hkn c
 subst c
 refine Ya (λa V=>V=W/\gQ a 100 (a[11]?=some (dp)) [(2,.sl 8 (w.map Wnt.enc) wx),(3,d),(4,.loc S.length 0 0),(5,.loc (S.length+1) 0 0)]) ?_ ?_
 ·simp only[push_cast,Vp,hal,h2,h3,h4,h5,h11,h12,↓WX,simprocAttr]
 rintro a V ⟨rfl,hal,h2,h3,h4,h5,h11⟩
 have gP:=hXU _ _ (Ym (J:=J) gP)
 have gT:=hXU _ _ gT'
 refine Za (λa T=>((∃J,T=V++J)/\q=0)/\a.length=100) ?_ ?_
 ·simp only[push_cast,hal,h11,hyp,↓WX,simprocAttr]
  refine Yk (λi a T=>((∃J,T=V++J)/\q=fstE (λq:Int×Int=>styF p t w (prtAt l q.1) (prtAt l q.2)) (ps.drop i))/\a.length=100/\a[2]?=some (.sl 8 (w.map Wnt.enc) wx)/\a[3]?=some (d)/\a[4]?=some (.loc S.length 0 0)/\a[5]?=some (.loc (S.length+1) 0 0)/\a[48]?=some (dp)/\a[49]?=some (.int .i64 ps.length)/\a[50]?=some (.int .i64 i)) ps.length ?_ (by omega) ?_
  ·simp only[push_cast,hal,h2,h3,h4,h5,simprocAttr,WY]
   exact⟨⟨[],(Ur _).symm⟩,hq⟩
  clear hq
  rintro i a T hi ⟨⟨⟨J2,rfl⟩,e⟩,hal,h2,h3,h4,h5,h48,h49,h50⟩
  rcases Kw hi with hlt |rfl
  case inr=>
   rw[Vj,fstE]at e
   simp only[push_cast,hal,h49,h50,↓WX,simprocAttr,WY]
   exact⟨⟨_,rfl⟩,e⟩
  have hltc:(i:Int)<ps.length:=by omega
  obtain⟨⟨u,v⟩,hx⟩:∃x,ps[i]?=some x:=⟨ps[i],by simp⟩
  obtain⟨u0,u1,v0,v1⟩:=hmem _ (Kx hx)
  dsimp only at u0 u1 v0 v1
  obtain⟨u2,u3⟩:=prtAt_at u0 u1
  obtain⟨v2,v3⟩:=prtAt_at v0 v1
  have um:=Kx u3
  have vm:=Kx v3
  rw[Yu hx,fstE]at e
  dsimp only at e
  refine Ya (λa T=>T=V++J2/\gQ a 100 (a[51]?=some (.bool true)) [(2,.sl 8 (w.map Wnt.enc) wx),(3,d),(4,.loc S.length 0 0),(5,.loc (S.length+1) 0 0),(48,dp),(49,.int .i64 ps.length),(50,.int .i64 i)]) ?_ ?_
  ·simp only[push_cast,hal,h2,h3,h4,h5,h48,h49,h50,hltc,↓WX,simprocAttr]
  rintro a T ⟨rfl,hal,h2,h3,h4,h5,h48,h49,h50,h51⟩
  refine Ya (λa T=>T=V++J2/\gQ a 100 (a[50]?=some (.int .i64 i)) [(2,.sl 8 (w.map Wnt.enc) wx),(3,d),(4,.loc S.length 0 0),(5,.loc (S.length+1) 0 0),(48,dp),(49,.int .i64 ps.length)]) ?_ ?_
  ·simp only[push_cast,hal,h2,h3,h4,h5,h48,h49,h50,h51,↓WX]
  rintro a T ⟨rfl,hal,h2,h3,h4,h5,h48,h49,h50⟩
  rw[Zx,Yx]
  refine Ya (λa T=>(∃kx J,a[14]?=some (.loc kx 0 0)/\T[kx]?=some (.row 2 [[.int .i64 u,.int .i64 v]])/\T=V++J)/\gQ a 100 (a[50]?=some (.int .i64 i)) [(2,.sl 8 (w.map Wnt.enc) wx),(3,d),(4,.loc S.length 0 0),(5,.loc (S.length+1) 0 0),(48,dp),(49,.int .i64 ps.length)]) ?_ ?_
  ·rcases hlp.ext (T:=V++J2) Jx with ⟨-,rfl⟩ | ⟨lx,rfl,hk0⟩ | ⟨kk,rfl,hk0⟩
   ·cases hx
   case' inr.inr=>have hk0:=hk0 [];rw[Ur]at hk0
   all_goals
    simp only[push_cast,hal,h2,h3,h4,h5,h48,h49,h50,hk0,hlt,hx,Yq,Yl,Xa,↓WX,simprocAttr]
    exact⟨_,_,rfl,Yl,Vg ..⟩
  clear J2
  rintro a T ⟨⟨kx,J2,h14,gx,hT⟩,hal,h2,h3,h4,h5,h48,h49,h50⟩
  have tP:T[S.length]?=some (Ob.row 2 [[.sl 5 (p.aps.map Apt.enc) p.apsx,.sl 3 (p.dts.map Dst.enc) p.dtsx]]):=by rw[hT];exact Ym gP
  have tT:T[S.length+1]?=some (Ob.row 4 [[.sl 9 (t.fares.map Far.enc) t.fx,.sl 15 (t.rules.map Rul.enc) t.rx,.sl 3 (t.rous.map Rou.enc) t.ox,.sl 7 (t.taxes.map Tx.enc) t.tx]]):=by rw[hT];exact Ym gT
  have hTS:∃K,T=S++K:=⟨JU++J2,by rw[hT,hJU,Vg]⟩
  have hTV:∃K,T=V++K:=⟨_,hT⟩
  have apu:=apl (enc:=Prt.enc) u3
  have apv:=apl (enc:=Prt.enc) v3
  have hq4:=h.ext (T:=T) (λk o ho=>by rw[hT];exact Ym (hXS _ _ ho))
  clear hT J2
  have u0':(0<=u)=True:=eq_true u0
  have v0':(0<=v)=True:=eq_true v0
  have u1':(u<(l.length:Int))=True:=eq_true u1
  have v1':(v<(l.length:Int))=True:=eq_true v1
  obtain⟨du,hdu,cdu⟩:=cdp _ (hfr _ um)
  obtain⟨dv,hdv,cdv⟩:=cdp _ (hfr _ vm)
  have cru:=crl _ (hkn2 _ um)
  have crv:=crl _ (hkn2 _ vm)
  obtain⟨sy,hsy⟩:∃sy,sy=styF p t w (prtAt l u) (prtAt l v):=⟨_,rfl⟩
  rw[<-hsy]at e
  unfold styF at hsy
  generalize prtAt l u=xu at*
  generalize prtAt l v=xv at*
  generalize hpu:dpF p (wntF w xu)=pu at*
  generalize hpv:dpF p (wntF w xv)=pv at*
  obtain⟨pu1,pu2⟩:=pu
  obtain⟨pv1,pv2⟩:=pv
  dsimp only at*
  refine Ya (λa T'=>T'=T/\gQ a 100 (a[50]?=some (.int .i64 i)) [(2,.sl 8 (w.map Wnt.enc) wx),(3,d),(4,.loc S.length 0 0),(5,.loc (S.length+1) 0 0),(14,.loc kx 0 0),(15,.int .i64 du),(16,.bool (decide (pu2=0))),(48,dp),(49,.int .i64 ps.length)]) ?_ ?_
  ·rcases hq4 with ⟨-,rfl⟩ | ⟨lx,rfl,hk0⟩ | ⟨kk,es,rfl,hk0⟩
   ·cases u3
   case' inr.inr=>have hk0:=hk0 [];rw[Ur]at hk0
   all_goals
    simp only[push_cast,hal,h2,h3,h4,h5,h14,h48,h49,h50,apu,gx,tP,hk0,u0',u1',u3,cdu,Prt.enc,↓WX,simprocAttr]
  rintro a T' ⟨rfl,hal,h2,h3,h4,h5,h14,h15,h16,h48,h49,h50⟩
  refine Ya (λa T=>T=T'/\gQ a 100 (a[50]?=some (.int .i64 i)) [(2,.sl 8 (w.map Wnt.enc) wx),(3,d),(4,.loc S.length 0 0),(5,.loc (S.length+1) 0 0),(14,.loc kx 0 0),(15,.int .i64 du),(16,.bool (decide (pu2=0))),(17,.int .i64 dv),(18,.bool (decide (pv2=0))),(48,dp),(49,.int .i64 ps.length)]) ?_ ?_
  ·rcases hq4 with ⟨-,rfl⟩ | ⟨lx,rfl,hk0⟩ | ⟨kk,es,rfl,hk0⟩
   ·cases u3
   case' inr.inr=>have hk0:=hk0 [];rw[Ur]at hk0
   all_goals
    simp only[push_cast,hal,h2,h3,h4,h5,h14,h15,h16,h48,h49,h50,apv,gx,tP,hk0,v0',v1',v3,cdv,Prt.enc,↓WX,simprocAttr]
  rintro a T ⟨rfl,hal,h2,h3,h4,h5,h14,h15,h16,h17,h18,h48,h49,h50⟩
  by_cases e1:pu2=0
  case neg=>
   rw[if_neg (λh=>e1 h.1)]at hsy
   subst hsy
   simp only[Int.reduceEq,if_false]at e
   subst e
   simp only[push_cast,hal,h16,e1,Tryz.f73,↓WX,simprocAttr,WY]
   exact hTS
  by_cases e2:pv2=0
  case neg=>
   rw[if_neg (λh=>e2 h.2)]at hsy
   subst hsy
   simp only[Int.reduceEq,if_false]at e
   subst e
   simp only[push_cast,hal,h16,h18,e1,e2,Tryz.f73,↓WX,simprocAttr,WY]
   exact hTS
  rw[if_pos ⟨e1,e2⟩]at hsy
  obtain rfl:=hdu e1
  obtain rfl:=hdv e2
  have csu:=cst (rulF t xu) du dv
  have csv:=cst (rulF t xv) du dv
  generalize stayR (rulF t xu) du dv=su at*
  generalize stayR (rulF t xv) du dv=sv at*
  obtain⟨x1,x2,x3,x4,x5,x6,x7,x8,x9,x10,x11,x12,x13,x14,hxr,-⟩:=Jy (rulF t xu)
  obtain⟨y1,y2,y3,y4,y5,y6,y7,y8,y9,y10,y11,y12,y13,y14,hyr,-⟩:=Jy (rulF t xv)
  rw[hxr]at cru csu
  rw[hyr]at crv csv
  refine Ya (λa T'=>T'=T/\gQ a 100 (a[50]?=some (.int .i64 i)) [(2,.sl 8 (w.map Wnt.enc) wx),(3,d),(4,.loc S.length 0 0),(5,.loc (S.length+1) 0 0),(14,.loc kx 0 0),(15,.int .i64 du),(17,.int .i64 dv),(48,dp),(49,.int .i64 ps.length)]) ?_ ?_
  ·simp only[push_cast,hal,h2,h3,h4,h5,h14,h15,h16,h17,h18,h48,h49,h50,e1,e2,↓WX,simprocAttr,WY]
  rintro a T' ⟨rfl,hal,h2,h3,h4,h5,h14,h15,h17,h48,h49,h50⟩
  simp only[push_cast,h14,gx,↓WX,simprocAttr]
  refine Yk (λm a T=>(T=T'/\((m=0)∨(m=1/\su=0)∨(m=2/\su=0/\sv=0)))/\a.length=100/\a[2]?=some (.sl 8 (w.map Wnt.enc) wx)/\a[3]?=some (d)/\a[4]?=some (.loc S.length 0 0)/\a[5]?=some (.loc (S.length+1) 0 0)/\a[15]?=some (.int .i64 du)/\a[17]?=some (.int .i64 dv)/\a[48]?=some (dp)/\a[49]?=some (.int .i64 ps.length)/\a[50]?=some (.int .i64 i)/\a[82]?=some (.agg [.int .i64 u,.int .i64 v])/\a[83]?=some (.int .i64 m)) 2 ?_ (by omega) ?_
  ·simp(maxSteps:=1000000)(disch:=omega)only[push_cast,hal,h2,h3,h4,h5,h15,h17,h48,h49,h50,Int.natCast_zero,simprocAttr]
   exact .inl trivial
  rintro m a T hm ⟨⟨rfl,hms⟩,hal,h2,h3,h4,h5,h15,h17,h48,h49,h50,h82,h83⟩
  rcases hms with rfl | ⟨rfl,hsu⟩ | ⟨rfl,hsu,hsv⟩
  ·by_cases c3:su=0
   ·rcases hq4 with ⟨-,rfl⟩ | ⟨lx,rfl,hk0⟩ | ⟨kk,es,rfl,hk0⟩
    ·cases u3
    case' inr.inr=>have hk0:=hk0 [];rw[Ur]at hk0
    all_goals
     simp only[push_cast,Vp,hal,h2,h3,h4,h5,h15,h17,h48,h49,h50,h82,h83,apu,tT,hk0,u0',u1',u3,cru,csu,c3,Prt.enc,Yf,↓WX,simprocAttr,WY]
   ·rw[if_neg c3]at hsy
    subst hsy
    rw[if_neg c3]at e
    subst e
    rcases hq4 with ⟨-,rfl⟩ | ⟨lx,rfl,hk0⟩ | ⟨kk,es,rfl,hk0⟩
    ·cases u3
    case' inr.inr=>have hk0:=hk0 [];rw[Ur]at hk0
    all_goals
     simp only[push_cast,Vo,hal,h3,h5,h15,h17,h82,h83,apu,tT,hk0,u0',u1',u3,cru,csu,c3,Prt.enc,Tryz.f73,↓WX,simprocAttr,WY]
     exact hTS
  ·rw[if_pos hsu]at hsy
   rw[hsy]at e
   have hm1:((1:Nat):Int)=1:=rfl
   by_cases c3:sv=0
   ·rcases hq4 with ⟨-,rfl⟩ | ⟨lx,rfl,hk0⟩ | ⟨kk,es,rfl,hk0⟩
    ·cases u3
    case' inr.inr=>have hk0:=hk0 [];rw[Ur]at hk0
    all_goals
     simp only[push_cast,Vp,hal,h2,h3,h4,h5,h15,h17,h48,h49,h50,h82,h83,apv,tT,hk0,v0',v1',v3,crv,csv,c3,hsu,hm1,Prt.enc,Yf,↓WX,simprocAttr,WY]
   ·rw[if_neg c3]at e
    subst e
    rcases hq4 with ⟨-,rfl⟩ | ⟨lx,rfl,hk0⟩ | ⟨kk,es,rfl,hk0⟩
    ·cases u3
    case' inr.inr=>have hk0:=hk0 [];rw[Ur]at hk0
    all_goals
     simp only[push_cast,Vo,hal,h3,h5,h15,h17,h82,h83,apv,tT,hk0,v0',v1',v3,crv,csv,c3,hm1,Prt.enc,Tryz.f73,↓WX,simprocAttr,WY]
     exact hTS
  ·rw[if_pos hsu]at hsy
   rw[hsy]at e
   rw[if_pos hsv]at e
   have hm2:((2:Nat):Int)=2:=rfl
   simp(disch:=omega)only[push_cast,hal,h2,h3,h4,h5,h48,h49,h50,h83,hm2,hlt,Yf,↓WX,simprocAttr,WY]
   exact⟨hTV,e⟩
 rintro a T ⟨⟨⟨J2,rfl⟩,rfl⟩,hal⟩
 simp only[push_cast,hal,Tryz.f73,↓WX,simprocAttr]
 exact⟨_,by rw[hJU,Vg]⟩
theorem PStays_x {S:List Ob} (p:Plc) (hpa:p.aps.length<=1048576) (hsh:∀a∈p.aps,a.sh.length<=1048576) (hzo:∀a∈p.aps,ShOk a.sh) (t:Trf) (hr:t.rules.length<=1048576) (w:List Wnt) (wx:Bool) {d:D} {l:List Prt} (h:LR 4 Prt.enc S d l) (hl:l.length<=900) (hn:1048901<=n):∀st,Yi E (Yb E n) st S 73 [.agg p.enc,.agg t.enc,.sl 8 (w.map Wnt.enc) wx,d]=some (.int .i64 (staysF p t w l),S):=by
 obtain⟨m,rfl⟩:∃m,n=m+1:=⟨n-1,by omega⟩
 exact obs_r (A:=λd=>[.agg p.enc,.agg t.enc,.sl 8 (w.map Wnt.enc) wx,d]) rfl (Jr l) rfl (λd hd=>by simp only[Yc,Yg,D.pure,Yt,Ja,Jd,hd,Ua]) (λk n=>by simp only[Yc,Yg,D.pure,Bool.and_false,WY]) (λS h=>PStays_d p hpa hsh hzo t hr w wx h hl (by omega)) h
end
end Go.Proofs.YtaklebjoenophaaGreat.Dm
