/-
  The stays of round trips, and whether components make up a journey: the reference, exactly.
  Whether the components of a journey can be combined as a whole: the reference, exactly.
-/
import Derived.Test.YtaklebjoenophaaGreatPoY
set_option maxHeartbeats 64000000
set_option maxRecDepth 100000
set_option linter.unusedSimpArgs false
set_option linter.unusedVariables false
namespace Go.Proofs.YtaklebjoenophaaGreat.Dm
open Go Gw
def Wnt.seg (w:Wnt):List D:=[.str w.car,.int .i64 w.num,.int .i64 w.day,.str w.fr,.str w.to,.int .i64 w.dep,.int .i64 w.arr]
theorem frOk_at {w:List Wnt} {x:Prt} (h:frOk w x=true):0<=x.fr/\x.fr.toNat<w.length/\w[x.fr.toNat]?=some (wntF w x):=by
 unfold frOk at h
 simp only[Bool.not_eq_true',Bool.or_eq_false_iff,decide_eq_false_iff_not]at h
 have hl:x.fr.toNat<w.length:=by omega
 refine⟨by omega,hl,?_⟩
 unfold wntF
 rw[Uh hl]
 rfl
theorem prtAt_at {l:List Prt} {i:Int} (h0:0<=i) (h1:i<l.length):i.toNat<l.length/\l[i.toNat]?=some (prtAt l i):=by
 have hl:i.toNat<l.length:=by omega
 refine⟨hl,?_⟩
 unfold prtAt
 rw[Uh hl]
 rfl
section
variable {n : Nat}
theorem day26_x (p:Plc) (hpa:p.aps.length<=1048576) (hsh:∀a∈p.aps,a.sh.length<=1048576) (w:Wnt) (hn:1048700<=n):∀st S,Yi E (Yb E n) st S 197 [.agg p.enc,.agg w.seg]=some (.tup [.int .i64 (dpF p w).1,.int .i64 (dpF p w).2],S):=by
 obtain⟨m,rfl⟩:∃m,n=m+1:=⟨n-1,by omega⟩
 have hp:Yp [.agg p.enc,.agg w.seg]=true:=by
  simp only[Yc,Yg,D.pure,Yt,Ua,WY]
  rfl
 have hfd:=λst S=>PrFind_c (n:=m) (p:=p) (s:=w.fr) (by omega) (by omega) st S
 have hom:∀a,(p.aps.find? λa=>a.code.toList == w.fr.toList)=some a->a∈p.aps:=λa h=>List.mem_of_find?_eq_some h
 unfold dpF
 generalize (p.aps.find? λa=>a.code.toList == w.fr.toList)=o at*
 simp only[Plc.enc,Wnt.seg]at hp hfd ⊢
 have:WO (Yb E (m+1) 197 [.agg [.sl 5 (p.aps.map Apt.enc) p.apsx,.sl 3 (p.dts.map Dst.enc) p.dtsx],.agg [.str w.car,.int .i64 w.num,.int .i64 w.day,.str w.fr,.str w.to,.int .i64 w.dep,.int .i64 w.arr]] []) λr T=>r=.tup [.int .i64 (match o with |none=>((0:Int),(14:Int)) |some a=>(dayF (locF (some a) w.dep),0)).1,.int .i64 (match o with |none=>((0:Int),(14:Int)) |some a=>(dayF (locF (some a) w.dep),0)).2]:=by
  cases o with
  |none=>
   simp only[Xy,zeroApt]at hfd
   dsimp only
   refine Ye Tryz.func197 rfl (by decide) rfl 29 rfl (λa hal ha=>?_)
   obtain⟨h0,h1⟩:=aQ2 ha
   clear ha
   simp only[push_cast,hal,h0,h1,hfd,Tryz.f197,↓WX,simprocAttr,WY]
  |some a=>
   have hlo:=local05_x (n:=m) (by omega) a.off (zsh_fls (some a)) (hsh a (hom a rfl)) w.dep
   have hsp:=split03_x (n:=m) (by omega) (locF (some a) w.dep)
   rw[show IntKind.i64.wrap (w.dep+ofsF w.dep a.off (zshs (some a)))=locF (some a) w.dep from rfl]at hlo
   simp only[Xy,Apt.enc]at hfd
   simp only[zshD]at hlo
   dsimp only
   generalize locF (some a) w.dep=lo at*
   generalize dayF lo=dy at*
   refine Ye Tryz.func197 rfl (by decide) rfl 29 rfl (λa hal ha=>?_)
   obtain⟨h0,h1⟩:=aQ2 ha
   clear ha
   simp only[push_cast,hal,h0,h1,hfd,hlo,hsp,Tryz.f197,↓WX,simprocAttr,WY]
 obtain⟨_,T,ho,rfl⟩:=this
 exact λst S=>Yd rfl hp ho rfl
theorem stay26_x (p:Plc) (hpa:p.aps.length<=1048576) (hsh:∀a∈p.aps,a.sh.length<=1048576) (t:Trf) (hr:t.rules.length<=1048576) (w:List Wnt) (wx:Bool) (ya yb:Prt) (ka:knoF t ya=true) (kb:knoF t yb=true) (fa:frOk w ya=true) (fb:frOk w yb=true) (hn:1048800<=n):∀st S,Yi E (Yb E n) st S 146 [.agg p.enc,.agg t.enc,.sl 8 (w.map Wnt.enc) wx,.agg ya.enc,.agg yb.enc]=some (.int .i64 (styF p t w ya yb),S):=by
 obtain⟨m,rfl⟩:∃m,n=m+1:=⟨n-1,by omega⟩
 have hp:Yp [.agg p.enc,.agg t.enc,.sl 8 (w.map Wnt.enc) wx,.agg ya.enc,.agg yb.enc]=true:=by simp only[Yc,Yg,D.pure,Yt,Ja,Jd,Prt_pure,Ua]
 have cra:=rule26_x (n:=m) t ya ka hr (by omega)
 have crb:=rule26_x (n:=m) t yb kb hr (by omega)
 have cda:=day26_x (n:=m) p hpa hsh (wntF w ya) (by omega)
 have cdb:=day26_x (n:=m) p hpa hsh (wntF w yb) (by omega)
 obtain⟨a1,a2,a3⟩:=frOk_at fa
 obtain⟨b1,b2,b3⟩:=frOk_at fb
 have a1':(0<=ya.fr)=True:=eq_true a1
 have b1':(0<=yb.fr)=True:=eq_true b1
 have csa:=λu v=>stay21_x (n:=m) (rulF t ya) u v (by omega)
 have csb:=λu v=>stay21_x (n:=m) (rulF t yb) u v (by omega)
 unfold styF
 generalize wntF w ya=wa at*
 generalize wntF w yb=wb at*
 generalize dpF p wa=da at*
 generalize dpF p wb=db at*
 obtain⟨da1,da2⟩:=da
 obtain⟨db1,db2⟩:=db
 dsimp only at*
 have csa:=csa da1 db1
 have csb:=csb da1 db1
 generalize stayR (rulF t ya) da1 db1=sa at*
 generalize stayR (rulF t yb) da1 db1=sb at*
 obtain⟨x1,x2,x3,x4,x5,x6,x7,x8,x9,x10,x11,x12,x13,x14,hx,-⟩:=Jy (rulF t ya)
 obtain⟨y1,y2,y3,y4,y5,y6,y7,y8,y9,y10,y11,y12,y13,y14,hy,-⟩:=Jy (rulF t yb)
 rw[hx]at cra csa
 rw[hy]at crb csb
 simp only[Plc.enc,Trf.enc,Prt.enc,Wnt.seg]at hp cra crb cda cdb ⊢
 have:WO (Yb E (m+1) 146 [.agg [.sl 5 (p.aps.map Apt.enc) p.apsx,.sl 3 (p.dts.map Dst.enc) p.dtsx],.agg [.sl 9 (t.fares.map Far.enc) t.fx,.sl 15 (t.rules.map Rul.enc) t.rx,.sl 3 (t.rous.map Rou.enc) t.ox,.sl 7 (t.taxes.map Tx.enc) t.tx],.sl 8 (w.map Wnt.enc) wx,.agg [.int .i64 ya.fr,.int .i64 ya.to,.int .i64 ya.fa,.int .i64 ya.am],.agg [.int .i64 yb.fr,.int .i64 yb.to,.int .i64 yb.fa,.int .i64 yb.am]] []) λr T=>r=.int .i64 (if da2=0/\db2=0 then if sa=0 then sb else sa else 14):=by
  refine Ye Tryz.func146 rfl (by decide) rfl 59 rfl (λa hal ha=>?_)
  obtain⟨h0,h1,h2,h3,h4⟩:=aQ5 ha
  clear ha
  by_cases e1:da2=0
  case neg=>
   rw[if_neg (λh=>e1 h.1)]
   simp only[push_cast,Vo,hal,h0,h1,h2,h3,h4,a1',a3,b1',b3,cda,cdb,e1,Wnt.enc,Tryz.f146,↓WX,simprocAttr]
  by_cases e2:db2=0
  case neg=>
   rw[if_neg (λh=>e2 h.2)]
   simp only[push_cast,Vp,Vo,hal,h0,h1,h2,h3,h4,a1',a3,b1',b3,cda,cdb,e1,e2,Wnt.enc,Tryz.f146,↓WX,simprocAttr,WY]
  rw[if_pos ⟨e1,e2⟩]
  by_cases e3:sa=0
  case neg=>
   rw[if_neg e3]
   simp only[push_cast,Vp,Vo,hal,h0,h1,h2,h3,h4,a1',a3,b1',b3,cda,cdb,cra,csa,e1,e2,e3,Wnt.enc,Tryz.f146,↓WX,simprocAttr,WY]
  rw[if_pos e3]
  simp only[push_cast,Vp,hal,h0,h1,h2,h3,h4,a1',a3,b1',b3,cda,cdb,cra,csa,crb,csb,e1,e2,e3,Wnt.enc,Tryz.f146,↓WX,simprocAttr,WY]
 obtain⟨_,T,ho,rfl⟩:=this
 exact λst S=>Yd rfl hp ho rfl
theorem Stays26_d {S:List Ob} (p:Plc) (hpa:p.aps.length<=1048576) (hsh:∀a∈p.aps,a.sh.length<=1048576) (t:Trf) (hr:t.rules.length<=1048576) (w:List Wnt) (wx:Bool) {d:D} {l:List Prt} (h:LQ 4 Prt.enc S d l) (hl:l.length<=900) (hn:1048900<=n):
  WO (Yb E (n+1) 92 [.agg p.enc,.agg t.enc,.sl 8 (w.map Wnt.enc) wx,d] S) λr T=>r=.int .i64 (staysF p t w l)/\∃J,T=S++J:=by
 have hy:=lq_len Tryz.underlying37 h
 simp only[push_cast]at hy
 obtain⟨R0,hR0⟩:∃R0,R0=Ob.row 2 [p.enc]:=⟨_,rfl⟩
 obtain⟨R1,hR1⟩:∃R1,R1=Ob.row 4 [t.enc]:=⟨_,rfl⟩
 have hext:ExtS S (S++[R0]++[R1]):=λ_ _ h=>Ym (Ym h)
 obtain⟨dp,U,cpa,hXU,hlp⟩:=Pairs26_x (n:=n) t (h.ext hext) hl (by omega)
 have hkn:=pairsF_kno (t:=t) (l:=l)
 have hmem:=pairsF_mem (t:=t) (l:=l)
 have hpl:=pairsF_len (t:=t) (l:=l)
 obtain⟨q,hq⟩:∃q,q=staysF p t w l:=⟨_,rfl⟩
 rw[<-hq]
 unfold staysF at hq
 generalize hpe:(Xq t l).2=pe at*
 generalize (Xq t l).1=ps at*
 have cst:=λa b ka kb fa fb=>stay26_x (n:=n) p hpa hsh t hr w wx a b ka kb fa fb (by omega)
 have hyp:=lq_len Tryz.underlying38 hlp
 simp only[push_cast]at hyp
 simp only[Plc.enc,Trf.enc]at cpa cst hR0 hR1 ⊢
 refine Ye Tryz.func92 rfl (by decide) rfl 74 rfl (λa hal ha=>?_)
 obtain⟨h0,h1,h2,h3⟩:=aQ4 ha
 clear ha
 refine Ya (λa V=>V=S++[R0]++[R1]/\gQ a 74 (a[5]?=some (.loc (S.length+1) 0 0)) [(2,.sl 8 (w.map Wnt.enc) wx),(3,d),(4,.loc S.length 0 0)]) ?_ ?_
 ·simp only[push_cast,hal,h0,h1,h2,h3,hR0,hR1,Ku,Uu,↓WX,simprocAttr]
 rintro a V ⟨rfl,hal,h2,h3,h4,h5⟩
 have gP:(S++[R0]++[R1])[S.length]?=some (Ob.row 2 [[.sl 5 (p.aps.map Apt.enc) p.apsx,.sl 3 (p.dts.map Dst.enc) p.dtsx]]):=by rw[hR0];exact end0
 have gT:(S++[R0]++[R1])[S.length+1]?=some (Ob.row 4 [[.sl 9 (t.fares.map Far.enc) t.fx,.sl 15 (t.rules.map Rul.enc) t.rx,.sl 3 (t.rous.map Rou.enc) t.ox,.sl 7 (t.taxes.map Tx.enc) t.tx]]):=by rw[hR1];exact end1
 have hXU':ExtS S U:=λk o ho=>hXU _ _ (hext _ _ ho)
 obtain⟨JU,hJU⟩:=extS_pre hXU'
 have hJV:∃J,S++[R0]++[R1]=S++J:=⟨[R0,R1],by simp⟩
 generalize S++[R0]++[R1]=V0 at*
 obtain⟨b,hb⟩:∃b,b=l.all (frOk w):=⟨_,rfl⟩
 rw[<-hb]at hq
 refine Za (λa V=>(V=V0/\b=true)/\gQ a 74 (a[5]?=some (.loc (S.length+1) 0 0)) [(2,.sl 8 (w.map Wnt.enc) wx),(3,d),(4,.loc S.length 0 0)]) ?_ ?_
 ·simp only[push_cast,↓WX,simprocAttr]
  refine Yk (λi a T=>(T=V0/\b=(l.drop i).all (frOk w))/\a.length=74/\a[2]?=some (.sl 8 (w.map Wnt.enc) wx)/\a[3]?=some (d)/\a[4]?=some (.loc S.length 0 0)/\a[5]?=some (.loc (S.length+1) 0 0)/\a[9]?=some (.int .i64 i)) l.length ?_ (by omega) ?_
  ·simp only[push_cast,hal,h2,h3,h4,h5,simprocAttr,WY]
   exact hb
  clear hb
  rintro i a T hi ⟨⟨rfl,e⟩,hal,h2,h3,h4,h5,h9⟩
  rcases Kw hi with hlt |rfl
  case inr=>
   rw[Vj,List.all_nil]at e
   simp only[push_cast,hal,h2,h3,h4,h5,h9,hy,↓WX,simprocAttr,WY]
   exact e
  have hltc:(i:Int)<l.length:=by omega
  obtain⟨x,hx⟩:∃x,l[i]?=some x:=⟨l[i],by simp⟩
  rw[Yu hx,List.all_cons]at e
  unfold frOk at e
  have hk0':=h.ext (T:=T) (λk o ho=>by obtain⟨J,rfl⟩:=hJV;exact Ym ho)
  rcases hk0' with ⟨-,rfl⟩ | ⟨lx,rfl,hk0⟩ | ⟨kk,rfl,hk0⟩
  ·cases hx
  case' inr.inr=>have hk0:=hk0 [];rw[Ur]at hk0
  all_goals
   by_cases c1:x.fr<0
   ·simp only[Ue c1,Bool.true_or,WY]at e
    subst e
    simp only[Ui,if_false]at hq
    subst hq
    simp only[push_cast,hal,h3,h9,hk0,hltc,hx,c1,Prt.enc,Tryz.f92,↓WX,simprocAttr,WY]
    exact hJV
   by_cases c2:x.fr>=w.length
   ·simp only[Ue c2,Bool.or_true,WY]at e
    subst e
    simp only[Ui,if_false]at hq
    subst hq
    have c2':((w.length:Int)<=x.fr)=True:=eq_true c2
    simp only[push_cast,hal,h2,h3,h9,hk0,hltc,hx,c1,c2',Prt.enc,Tryz.f92,↓WX,simprocAttr,WY]
    exact hJV
   ·simp only[Ud c1,Ud c2,Bool.or_false,WY]at e
    have c2':((w.length:Int)<=x.fr)=False:=eq_false c2
    simp(disch:=omega)only[push_cast,hal,h2,h3,h4,h5,h9,hk0,hltc,hlt,hx,c1,c2',Prt.enc,Yf,↓WX,simprocAttr,WY]
    exact e
 rintro a V ⟨⟨rfl,rfl⟩,hal,h2,h3,h4,h5⟩
 simp only[if_true]at hq
 have hfr:∀x∈l,frOk w x=true:=List.all_eq_true.1 hb.symm
 refine Ya (λa W=>W=U/\gQ a 74 (a[11]?=some (.int .i64 pe)) [(2,.sl 8 (w.map Wnt.enc) wx),(3,d),(4,.loc S.length 0 0),(5,.loc (S.length+1) 0 0),(10,dp)]) ?_ ?_
 ·simp only[push_cast,hal,h2,h3,h4,h5,gT,cpa,↓WX,simprocAttr]
 rintro a W ⟨rfl,hal,h2,h3,h4,h5,h10,h11⟩
 by_cases c:pe=0
 case neg=>
  rw[if_neg c]at hq
  subst hq
  simp only[push_cast,Vo,hal,h11,c,Tryz.f92,↓WX,simprocAttr]
  exact⟨_,hJU⟩
 rw[if_pos c]at hq
 have hkn2:=hkn c
 subst c
 refine Ya (λa V=>V=W/\gQ a 74 (a[10]?=some (dp)) [(2,.sl 8 (w.map Wnt.enc) wx),(3,d),(4,.loc S.length 0 0),(5,.loc (S.length+1) 0 0)]) ?_ ?_
 ·simp only[push_cast,Vp,hal,h2,h3,h4,h5,h10,h11,↓WX,simprocAttr]
 rintro a V ⟨rfl,hal,h2,h3,h4,h5,h10⟩
 have gP:=hXU _ _ gP
 have gT:=hXU _ _ gT
 refine Za (λa W=>(W=V/\q=0)/\a.length=74/\a[2]?=some (.sl 8 (w.map Wnt.enc) wx)) ?_ ?_
 ·simp only[push_cast,↓WX,simprocAttr]
  refine Yk (λi a T=>(T=V/\q=fstE (λq:Int×Int=>styF p t w (prtAt l q.1) (prtAt l q.2)) (ps.drop i))/\a.length=74/\a[2]?=some (.sl 8 (w.map Wnt.enc) wx)/\a[3]?=some (d)/\a[4]?=some (.loc S.length 0 0)/\a[5]?=some (.loc (S.length+1) 0 0)/\a[10]?=some (dp)/\a[12]?=some (.int .i64 i)) ps.length ?_ (by omega) ?_
  ·simp only[push_cast,hal,h2,h3,h4,h5,h10,simprocAttr,WY]
   exact hq
  clear hq
  rintro i a T hi ⟨⟨rfl,e⟩,hal,h2,h3,h4,h5,h10,h12⟩
  rcases Kw hi with hlt |rfl
  case inr=>
   rw[Vj,fstE]at e
   simp only[push_cast,hal,h2,h10,h12,hyp,↓WX,simprocAttr,WY]
   exact e
  have hltc:(i:Int)<ps.length:=by omega
  obtain⟨x,hx⟩:∃x,ps[i]?=some x:=⟨ps[i],by simp⟩
  rw[Yu hx,fstE]at e
  obtain⟨x1,x2,x3,x4⟩:=hmem x (Kx hx)
  obtain⟨u1,u2⟩:=prtAt_at x1 x2
  obtain⟨v1,v2⟩:=prtAt_at x3 x4
  have x1':(0<=x.1)=True:=eq_true x1
  have x3':(0<=x.2)=True:=eq_true x3
  have cst:=cst _ _ (hkn2 _ (Kx u2)) (hkn2 _ (Kx v2)) (hfr _ (Kx u2)) (hfr _ (Kx v2))
  generalize styF p t w (prtAt l x.1) (prtAt l x.2)=se at*
  generalize prtAt l x.1=pa at*
  generalize prtAt l x.2=pb at*
  simp only[Prt.enc]at cst
  have hk0':=h.ext hXU'
  rcases hlp with ⟨-,rfl⟩ | ⟨lx,rfl,hk1⟩ | ⟨kk,rfl,hk1⟩
  ·cases hx
  case' inr.inr=>have hk1:=hk1 [];rw[Ur]at hk1
  all_goals
   rcases hk0' with ⟨-,rfl⟩ | ⟨lx,rfl,hk0⟩ | ⟨kk,rfl,hk0⟩
   ·cases u2
   case' inr.inr=>have hk0:=hk0 [];rw[Ur]at hk0
   all_goals
    by_cases c:se=0
    ·rw[if_pos c]at e
     subst c
     simp(disch:=omega)only[push_cast,Vp,hal,h2,h3,h4,h5,h10,h12,hk0,hk1,gP,gT,hltc,hlt,hx,x1',x3',x2,x4,u2,v2,cst,Xa,Prt.enc,Yf,↓WX,simprocAttr,WY]
     exact e
    ·rw[if_neg c]at e
     subst e
     simp only[push_cast,Vo,hal,h2,h3,h4,h5,h10,h12,hk0,hk1,gP,gT,hltc,hx,x1',x3',x2,x4,u2,v2,cst,c,Xa,Prt.enc,Tryz.f92,↓WX,simprocAttr,WY]
     exact⟨_,hJU⟩
 rintro a W ⟨⟨rfl,rfl⟩,hal,h2⟩
 simp only[push_cast,hal,Tryz.f92,↓WX,simprocAttr]
 exact⟨_,hJU⟩
end
section
variable {n : Nat}
theorem Mixed26_x {S:List Ob} (t:Trf) {d:D} {l:List Prt} (h:LQ 4 Prt.enc S d l) (hl:l.length<=900) (hr:t.rules.length<=1048576) (hcb:∀r∈t.rules,r.comb.length<=1048576) (hn:1048701<=n):∀st,Yi E (Yb E n) st S 91 [.agg t.enc,d]=some (.int .i64 (mixedF t l),S):=by
 obtain⟨m,rfl⟩:∃m,n=m+1:=⟨n-1,by omega⟩
 refine obs_g rfl rfl λS' hS=>?_
 rcases hS with hp |rfl
 ·simp only[Yc,Yg,D.pure,Ua,Kv]at hp
  exact Mixed26_d t (h.pure0 hp.2).lq hl hr hcb (by omega)
 ·exact Mixed26_d t h hl hr hcb (by omega)
theorem Stays26_x {S:List Ob} (p:Plc) (hpa:p.aps.length<=1048576) (hsh:∀a∈p.aps,a.sh.length<=1048576) (t:Trf) (hr:t.rules.length<=1048576) (w:List Wnt) (wx:Bool) {d:D} {l:List Prt} (h:LQ 4 Prt.enc S d l) (hl:l.length<=900) (hn:1048901<=n):∀st,Yi E (Yb E n) st S 92 [.agg p.enc,.agg t.enc,.sl 8 (w.map Wnt.enc) wx,d]=some (.int .i64 (staysF p t w l),S):=by
 obtain⟨m,rfl⟩:∃m,n=m+1:=⟨n-1,by omega⟩
 refine obs_g rfl rfl λS' hS=>?_
 rcases hS with hp |rfl
 ·simp only[Yc,Yg,D.pure,Ua,Kv]at hp
  exact Stays26_d p hpa hsh t hr w wx (h.pure0 hp.2.2.2).lq hl (by omega)
 ·exact Stays26_d p hpa hsh t hr w wx h hl (by omega)
theorem whole26_d {S:List Ob} (w:List Wnt) (wx:Bool) {d:D} {l:List Prt} (h:LQ 4 Prt.enc S d l) (hl:l.length<=900) (hn:1000<=n):
  WO (Yb E (n+1) 90 [.sl 8 (w.map Wnt.enc) wx,d] S) λr T=>r=.bool (wholeF w l)/\∃J,T=S++J:=by
 have hy:=lq_len Tryz.underlying37 h
 simp only[push_cast]at hy
 unfold wholeF
 obtain⟨q,hq⟩:∃q,q=whF l 0:=⟨_,rfl⟩
 rw[<-hq]
 refine Ye Tryz.func90 rfl (by decide) rfl 43 rfl (λa hal ha=>?_)
 obtain⟨h0,h1⟩:=aQ2 ha
 clear ha
 refine Ya (λa V=>V=S/\gQ a 43 (a[1]?=some (d)) [(0,.sl 8 (w.map Wnt.enc) wx)]) ?_ ?_
 ·simp only[push_cast,hal,h0,h1,↓WX,simprocAttr]
 rintro a V ⟨rfl,hal,h0,h1⟩
 refine Ya (λa W=>W=V/\gQ a 43 (a[5]?=some (.int .i64 0)) [(0,.sl 8 (w.map Wnt.enc) wx),(1,d)]) ?_ ?_
 ·simp only[push_cast,hal,h0,h1,↓WX,simprocAttr]
 rintro a W ⟨rfl,hal,h0,h1,h5⟩
 refine Za (λa V=>(V=W/\∃k,a[5]?=some (.int .i64 k)/\q=some k)/\gQ a 43 (a[1]?=some (d)) [(0,.sl 8 (w.map Wnt.enc) wx)]) ?_ ?_
 ·simp only[push_cast,Vn,↓WX,simprocAttr]
  refine Yk (λi a T=>(T=W/\∃k,a[5]?=some (.int .i64 k)/\q=whF (l.drop i) k)/\a.length=43/\a[0]?=some (.sl 8 (w.map Wnt.enc) wx)/\a[1]?=some (d)/\a[6]?=some (.int .i64 i)) l.length ?_ (by omega) ?_
  ·simp only[push_cast,hal,h0,h1,h5,simprocAttr,WY]
   exact⟨_,rfl,hq⟩
  clear hq
  rintro i a T hi ⟨⟨rfl,k,h5,e⟩,hal,h0,h1,h6⟩
  rcases Kw hi with hlt |rfl
  case inr=>
   rw[Vj,whF]at e
   simp only[push_cast,hal,h0,h1,h5,h6,hy,↓WX,simprocAttr,WY]
   exact⟨_,rfl,e⟩
  have hltc:(i:Int)<l.length:=by omega
  obtain⟨x,hx⟩:∃x,l[i]?=some x:=⟨l[i],by simp⟩
  rw[Yu hx,whF]at e
  rcases h with ⟨-,rfl⟩ | ⟨lx,rfl,hk⟩ | ⟨kk,rfl,hk⟩
  ·cases hx
  case' inr.inr=>have hk:=hk [];rw[Ur]at hk
  all_goals
   cases c1:decide (x.fr=k)
   ·rw[c1]at e
    simp only[Bool.true_or,if_true,WY]at e
    subst e
    simp only[push_cast,decide_not,hal,h0,h1,h5,h6,hk,hltc,hx,c1,Prt.enc,Tryz.f90,↓WX,simprocAttr,WY]
    exact⟨[],(Ur _).symm⟩
   cases c2:decide (x.to<=k)
   ·rw[c1,c2]at e
    simp only[Bool.or_self,Ui,if_false,WY]at e
    simp(disch:=omega)only[push_cast,decide_not,hal,h0,h1,h5,h6,hk,hltc,hlt,hx,c1,c2,Prt.enc,Yf,↓WX,simprocAttr,WY]
    exact⟨_,rfl,e⟩
   ·rw[c1,c2]at e
    simp only[Bool.false_or,if_true,WY]at e
    subst e
    simp only[push_cast,decide_not,hal,h0,h1,h5,h6,hk,hltc,hx,c1,c2,Prt.enc,Tryz.f90,↓WX,simprocAttr,WY]
    exact⟨[],(Ur _).symm⟩
 rintro a V ⟨⟨rfl,k,h5,rfl⟩,hal,h0,h1⟩
 cases c:decide ((l.length:Int)>0)
 ·have c':((0:Int)<l.length)=False:=eq_false (Vc c)
  simp only[push_cast,Vn,hal,h1,hy,c',Tryz.f90,↓WX,simprocAttr,WY]
  exact⟨[],(Ur _).symm⟩
 ·have c':((0:Int)<l.length)=True:=eq_true (Vb c)
  simp only[push_cast,Vn,hal,h0,h1,h5,hy,c',Tryz.f90,↓WX,simprocAttr,WY]
  exact⟨[],(Ur _).symm⟩
theorem whole26_x {S:List Ob} (w:List Wnt) (wx:Bool) {d:D} {l:List Prt} (h:LQ 4 Prt.enc S d l) (hl:l.length<=900) (hn:1001<=n):∀st,Yi E (Yb E n) st S 90 [.sl 8 (w.map Wnt.enc) wx,d]=some (.bool (wholeF w l),S):=by
 obtain⟨m,rfl⟩:∃m,n=m+1:=⟨n-1,by omega⟩
 refine obs_g rfl rfl λS' hS=>?_
 rcases hS with hp |rfl
 ·simp only[Yc,Yg,D.pure,Ua,Kv]at hp
  exact whole26_d w wx (h.pure0 hp.2).lq hl (by omega)
 ·exact whole26_d w wx h hl (by omega)
theorem Check26_d {S:List Ob} (p:Plc) (hpa:p.aps.length<=1048576) (hsh:∀a∈p.aps,a.sh.length<=1048576) (t:Trf) (hr:t.rules.length<=1048576) (hcb:∀r∈t.rules,r.comb.length<=1048576) (w:List Wnt) (wx:Bool) {d:D} {l:List Prt} (h:LQ 4 Prt.enc S d l) (hl:l.length<=900) (hn:1049000<=n):
  WO (Yb E (n+1) 35 [.agg p.enc,.agg t.enc,.sl 8 (w.map Wnt.enc) wx,d] S) λr T=>r=.int .i64 (checkF p t w l)/\∃J,T=S++J:=by
 obtain⟨R0,hR0⟩:∃R0,R0=Ob.row 2 [p.enc]:=⟨_,rfl⟩
 obtain⟨R1,hR1⟩:∃R1,R1=Ob.row 4 [t.enc]:=⟨_,rfl⟩
 have hext:ExtS S (S++[R0]++[R1]):=λ_ _ h=>Ym (Ym h)
 have cwh:=whole26_x (n:=n) w wx (h.ext hext) hl (by omega)
 obtain⟨dp,U,cpa,hXU,hlp⟩:=Pairs26_x (n:=n) t (h.ext hext) hl (by omega)
 have hXU':ExtS S U:=λk o ho=>hXU _ _ (hext _ _ ho)
 obtain⟨JU,hJU⟩:=extS_pre hXU'
 have cmi:=Mixed26_x (n:=n) t (h.ext hXU') hl hr hcb (by omega)
 have cst:=Stays26_x (n:=n) p hpa hsh t hr w wx (h.ext hXU') hl (by omega)
 clear hlp
 obtain⟨q,hq⟩:∃q,q=checkF p t w l:=⟨_,rfl⟩
 rw[<-hq]
 unfold checkF at hq
 generalize wholeF w l=bw at*
 generalize (Xq t l).2=pe at*
 generalize mixedF t l=me at*
 generalize staysF p t w l=se at*
 simp only[Plc.enc,Trf.enc]at cpa cmi cst hR0 hR1 ⊢
 refine Ye Tryz.func35 rfl (by decide) rfl 36 rfl (λa hal ha=>?_)
 obtain⟨h0,h1,h2,h3⟩:=aQ4 ha
 clear ha
 refine Ya (λa V=>V=S++[R0]++[R1]/\gQ a 36 (a[5]?=some (.loc (S.length+1) 0 0)) [(2,.sl 8 (w.map Wnt.enc) wx),(3,d),(4,.loc S.length 0 0)]) ?_ ?_
 ·simp only[push_cast,hal,h0,h1,h2,h3,hR0,hR1,Ku,Uu,↓WX,simprocAttr]
 rintro a V ⟨rfl,hal,h2,h3,h4,h5⟩
 have gP:(S++[R0]++[R1])[S.length]?=some (Ob.row 2 [[.sl 5 (p.aps.map Apt.enc) p.apsx,.sl 3 (p.dts.map Dst.enc) p.dtsx]]):=by rw[hR0];exact end0
 have gT:(S++[R0]++[R1])[S.length+1]?=some (Ob.row 4 [[.sl 9 (t.fares.map Far.enc) t.fx,.sl 15 (t.rules.map Rul.enc) t.rx,.sl 3 (t.rous.map Rou.enc) t.ox,.sl 7 (t.taxes.map Tx.enc) t.tx]]):=by rw[hR1];exact end1
 have hJV:∃J,S++[R0]++[R1]=S++J:=⟨[R0,R1],by simp⟩
 generalize S++[R0]++[R1]=V0 at*
 refine Za (λa V=>(V=V0/\bw=true)/\gQ a 36 (a[5]?=some (.loc (S.length+1) 0 0)) [(2,.sl 8 (w.map Wnt.enc) wx),(3,d),(4,.loc S.length 0 0)]) ?_ ?_
 ·cases bw
  ·simp only[Ui,if_false]at hq
   subst hq
   simp only[push_cast,hal,h2,h3,cwh,Tryz.f35,↓WX,simprocAttr,WY]
   exact hJV
  ·simp only[push_cast,hal,h2,h3,h4,h5,cwh,↓WX,simprocAttr,WY]
 rintro a V ⟨⟨rfl,rfl⟩,hal,h2,h3,h4,h5⟩
 simp only[if_true]at hq
 refine Za (λa W=>(W=U/\pe=0)/\gQ a 36 (a[5]?=some (.loc (S.length+1) 0 0)) [(2,.sl 8 (w.map Wnt.enc) wx),(3,d),(4,.loc S.length 0 0)]) ?_ ?_
 ·by_cases c:pe=0
  ·subst c
   simp only[push_cast,Vp,hal,h2,h3,h4,h5,gT,cpa,↓WX,simprocAttr,WY]
  ·rw[if_neg c]at hq
   subst hq
   simp only[push_cast,Vo,hal,h3,h5,gT,cpa,c,Tryz.f35,↓WX,simprocAttr,WY]
   exact⟨_,hJU⟩
 rintro a W ⟨⟨rfl,rfl⟩,hal,h2,h3,h4,h5⟩
 simp only[if_true]at hq
 replace gP:=hXU _ _ gP
 replace gT:=hXU _ _ gT
 refine Za (λa V=>(V=W/\me=0)/\gQ a 36 (a[5]?=some (.loc (S.length+1) 0 0)) [(2,.sl 8 (w.map Wnt.enc) wx),(3,d),(4,.loc S.length 0 0)]) ?_ ?_
 ·by_cases c:me=0
  ·subst c
   simp only[push_cast,Vp,hal,h2,h3,h4,h5,gT,cmi,↓WX,simprocAttr,WY]
  ·rw[if_neg c]at hq
   subst hq
   simp only[push_cast,Vo,hal,h3,h5,gT,cmi,c,Tryz.f35,↓WX,simprocAttr,WY]
   exact⟨_,hJU⟩
 rintro a V ⟨⟨rfl,rfl⟩,hal,h2,h3,h4,h5⟩
 simp only[if_true]at hq
 subst hq
 simp only[push_cast,hal,h2,h3,h4,h5,gP,gT,cst,Tryz.f35,↓WX,simprocAttr]
 exact⟨_,hJU⟩
theorem Check26_x {S:List Ob} (p:Plc) (hpa:p.aps.length<=1048576) (hsh:∀a∈p.aps,a.sh.length<=1048576) (t:Trf) (hr:t.rules.length<=1048576) (hcb:∀r∈t.rules,r.comb.length<=1048576) (w:List Wnt) (wx:Bool) {d:D} {l:List Prt} (h:LQ 4 Prt.enc S d l) (hl:l.length<=900) (hn:1049001<=n):∀st,Yi E (Yb E n) st S 35 [.agg p.enc,.agg t.enc,.sl 8 (w.map Wnt.enc) wx,d]=some (.int .i64 (checkF p t w l),S):=by
 obtain⟨m,rfl⟩:∃m,n=m+1:=⟨n-1,by omega⟩
 refine obs_g rfl rfl λS' hS=>?_
 rcases hS with hp |rfl
 ·simp only[Yc,Yg,D.pure,Ua,Kv]at hp
  exact Check26_d p hpa hsh t hr hcb w wx (h.pure0 hp.2.2.2).lq hl (by omega)
 ·exact Check26_d p hpa hsh t hr hcb w wx h hl (by omega)
end
end Go.Proofs.YtaklebjoenophaaGreat.Dm
