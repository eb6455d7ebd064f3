/-
  The cheapest price of a journey: the program.
  The cheapest price of a journey, as it is handed back.
  Without the last fare of its tariff a journey is not cheaper: the plain law. Prices that are found are the best ones.
  A tariff with fewer fares: what its fares ask and cost; the amounts are right.
  Without the last fare of its tariff a journey is not cheaper: as a run of the machine.
-/
import Derived.Test.YtaklebjoenophaaGreatPtG
import Derived.Test.YtaklebjoenophaaGreatPrU
import Derived.Test.YtaklebjoenophaaGreatPqH
import Derived.Test.YtaklebjoenophaaGreatZg
set_option maxHeartbeats 64000000
set_option maxRecDepth 100000
set_option linter.unusedSimpArgs false
set_option linter.unusedVariables false
namespace Go.Proofs.YtaklebjoenophaaGreat.Dm
open Go Gw
def QuoR (o:Option Quo) (r:D):Prop:=
 match o with
 |none=>∃e:Int,e≠0/\r=.tup [.agg [.nils,.nils,.nils,.int .i64 0,.int .i64 0],.int .i64 e]
 |some q=>∃dp dq dt,r=.tup [.agg [dp,dq,dt,.int .i64 q.fare,.int .i64 q.total],.int .i64 0]/\FLs 4 Prt.enc dp q.parts/\FLs 2 encPr dq q.pairs/\FLs 2 encCh dt q.taxes
section
variable {n : Nat}
theorem Pright_x (p:Plc) (t:Trf) (w:List Wnt) (wx:Bool) (s:ByteArray) (sale:Int) (hn:1<=n):∀st S,callD E (dcall E n) st S 23 [.agg [.sl 5 (p.aps.map Apt.enc) p.apsx,.sl 3 (p.dts.map Dst.enc) p.dtsx,.sl 9 (t.fares.map Far.enc) t.fx,.sl 15 (t.rules.map Rul.enc) t.rx,.sl 3 (t.rous.map Rou.enc) t.ox,.sl 7 (t.taxes.map Tx.enc) t.tx,.sl 8 (w.map Wnt.enc) wx,.str s,.int .i64 sale]]=some (.bool (decide (0<w.length) && decide (w.length<=6)),S):=by
 obtain⟨m,rfl⟩:∃m,n=m+1:=⟨n-1,by omega⟩
 have hp:pureL [.agg [.sl 5 (p.aps.map Apt.enc) p.apsx,.sl 3 (p.dts.map Dst.enc) p.dtsx,.sl 9 (t.fares.map Far.enc) t.fx,.sl 15 (t.rules.map Rul.enc) t.rx,.sl 3 (t.rous.map Rou.enc) t.ox,.sl 7 (t.taxes.map Tx.enc) t.tx,.sl 8 (w.map Wnt.enc) wx,.str s,.int .i64 sale]]=true:=by
  have h1:=Plc_pure p
  have h2:=Trf_pure t
  simp only[Plc.enc,Trf.enc,pureL_cons,pureL_nil,D.pure,Yj,Ye]at h1 h2
  simp only[pureL_cons,pureL_nil,D.pure,h1,h2,Wnts_pure,Yj]
 have:WO (dcall E (m+1) 23 [.agg [.sl 5 (p.aps.map Apt.enc) p.apsx,.sl 3 (p.dts.map Dst.enc) p.dtsx,.sl 9 (t.fares.map Far.enc) t.fx,.sl 15 (t.rules.map Rul.enc) t.rx,.sl 3 (t.rous.map Rou.enc) t.ox,.sl 7 (t.taxes.map Tx.enc) t.tx,.sl 8 (w.map Wnt.enc) wx,.str s,.int .i64 sale]] []) λr T=>r=.bool (decide (0<w.length) && decide (w.length<=6)):=by
  clear hp
  refine wo_dcall Tryz.func23 rfl (by decide) rfl 13 rfl (λa hal ha=>?_)
  have h0:a[0]?=some (.agg [.sl 5 (p.aps.map Apt.enc) p.apsx,.sl 3 (p.dts.map Dst.enc) p.dtsx,.sl 9 (t.fares.map Far.enc) t.fx,.sl 15 (t.rules.map Rul.enc) t.rx,.sl 3 (t.rous.map Rou.enc) t.ox,.sl 7 (t.taxes.map Tx.enc) t.tx,.sl 8 (w.map Wnt.enc) wx,.str s,.int .i64 sale]):=ha 0 (by simp)
  clear ha
  by_cases c:0<w.length
  ·have c1:((w.length:Int)>0)=True:=eq_true (by omega)
   by_cases d:w.length<=6
   ·have d1:((w.length:Int)<=6)=True:=eq_true (by omega)
    simp(maxSteps:=1000000)(disch:=omega)only[push_cast,Zx,hal,h0,c1,d1,decide_true,Tryz.f23,↓WX,simprocAttr]
    rw[Yn c,Yn d]
    rfl
   ·have d1:((w.length:Int)<=6)=False:=eq_false (by omega)
    simp(maxSteps:=1000000)(disch:=omega)only[push_cast,Zx,hal,h0,c1,d1,decide_true,decide_false,Tryz.f23,↓WX,simprocAttr]
    rw[Yn c,Ym d]
    rfl
  ·have c1:((w.length:Int)>0)=False:=eq_false (by omega)
   simp(maxSteps:=1000000)(disch:=omega)only[push_cast,Zx,hal,h0,c1,decide_false,Tryz.f23,↓WX,simprocAttr]
   rw[Ym c]
   rfl
 obtain⟨_,T,ho,rfl⟩:=this
 exact λst S=>callD_pure rfl hp ho rfl
noncomputable def quoF (p:Plc) (t:Trf) (w:List Wnt) (s:ByteArray) (sale:Int):Option Quo:=
 if 0<w.length/\w.length<=6 then
  if (srcF (wyW p t w s sale) (amW p t w s) pctF p t w s).least 0=none then none else (srcF (wyW p t w s sale) (amW p t w s) pctF p t w s).frm w.length 0 [] 0 none
 else none
def QuoO (T:List Ob) (o:Option Quo) (r:D):Prop:=
 match o with
 |none=>∃e:Int,e≠0/\r=.tup [.agg [.nils,.nils,.nils,.int .i64 0,.int .i64 0],.int .i64 e]
 |some q=>∃k dq dt,r=.tup [.agg [.os k 0 q.parts.length false,dq,dt,.int .i64 q.fare,.int .i64 q.total],.int .i64 0]/\T[k]?=some (.row 4 (q.parts.map Prt.enc))/\LQ 2 encPr T dq q.pairs/\FLs 2 encCh dt q.taxes
theorem PQuote_d {p:Plc} (hp:PlG p) {t:Trf} (ht:TrG t) (w:List Wnt) (wx:Bool) (htm:∀u∈w,u.tm) (s:ByteArray) (sale:Int) (hfl:t.fares.length<=19) (hn:80000010<=n):
  WO (dcall E (n+1) 10 [.agg p.enc,.agg t.enc,.sl 8 (w.map Wnt.enc) wx,.str s,.int .i64 sale] []) λr T=>QuoO T (quoF p t w s sale) r:=by
 have cri:=Pright_x (n:=n) p t w wx s sale (by omega)
 obtain⟨o,ho⟩:∃o,o=quoF p t w s sale:=⟨_,rfl⟩
 rw[<-ho]
 unfold quoF at ho
 simp only[Plc.enc,Trf.enc]
 refine wo_dcall Tryz.func10 rfl (by decide) rfl 50 rfl (λa hal ha=>?_)
 have h0:a[0]?=some (.agg [.sl 5 (p.aps.map Apt.enc) p.apsx,.sl 3 (p.dts.map Dst.enc) p.dtsx]):=ha 0 (by simp)
 have h1:a[1]?=some (.agg [.sl 9 (t.fares.map Far.enc) t.fx,.sl 15 (t.rules.map Rul.enc) t.rx,.sl 3 (t.rous.map Rou.enc) t.ox,.sl 7 (t.taxes.map Tx.enc) t.tx]):=ha 1 (by simp)
 have h2:a[2]?=some (.sl 8 (w.map Wnt.enc) wx):=ha 2 (by simp)
 have h3:a[3]?=some (.str s):=ha 3 (by simp)
 have h4:a[4]?=some (.int .i64 sale):=ha 4 (by simp)
 clear ha
 obtain⟨V,hV⟩:∃V:List Ob,V=[Ob.row 2 [[.sl 5 (p.aps.map Apt.enc) p.apsx,.sl 3 (p.dts.map Dst.enc) p.dtsx]],Ob.row 4 [[.sl 9 (t.fares.map Far.enc) t.fx,.sl 15 (t.rules.map Rul.enc) t.rx,.sl 3 (t.rous.map Rou.enc) t.ox,.sl 7 (t.taxes.map Tx.enc) t.tx]],.row 5 [[.nils,.nils,.nils,.int .i64 0,.int .i64 0]],.row 19 [[.sl 5 (p.aps.map Apt.enc) p.apsx,.sl 3 (p.dts.map Dst.enc) p.dtsx,.sl 9 (t.fares.map Far.enc) t.fx,.sl 15 (t.rules.map Rul.enc) t.rx,.sl 3 (t.rous.map Rou.enc) t.ox,.sl 7 (t.taxes.map Tx.enc) t.tx,.sl 8 (w.map Wnt.enc) wx,.str s,.int .i64 sale,.nils,.nils,.nils,.int .i64 0,.nils,.nils,.nils,.int .i64 0,.int .i64 0,.bool false]]]:=⟨_,rfl⟩
 refine wc_scut (λa U=>U=[Ob.row 2 [[.sl 5 (p.aps.map Apt.enc) p.apsx,.sl 3 (p.dts.map Dst.enc) p.dtsx]],Ob.row 4 [[.sl 9 (t.fares.map Far.enc) t.fx,.sl 15 (t.rules.map Rul.enc) t.rx,.sl 3 (t.rous.map Rou.enc) t.ox,.sl 7 (t.taxes.map Tx.enc) t.tx]],.row 5 [[.nils,.nils,.nils,.int .i64 0,.int .i64 0]]]/\a.length=50/\a[2]?=some (.sl 8 (w.map Wnt.enc) wx)/\a[3]?=some (.str s)/\a[4]?=some (.int .i64 sale)/\a[5]?=some (.loc 0 0 0)/\a[6]?=some (.loc 1 0 0)/\a[10]?=some (.loc 2 0 0)) ?_ ?_
 ·simp(maxSteps:=1000000)(disch:=omega)only[push_cast,hal,h0,h1,h2,h3,h4,↓WX,simprocAttr]
 clear hal h0 h1 h2 h3 h4 a
 rintro a U ⟨rfl,hal,h2,h3,h4,h5,h6,h10⟩
 refine wc_scut (λa U=>U=V/\a.length=50/\a[10]?=some (.loc 2 0 0)/\a[12]?=some (.loc 3 0 0)) ?_ ?_
 ·simp(maxSteps:=1000000)(disch:=omega)only[push_cast,hal,h2,h3,h4,h5,h6,h10,↓WX,simprocAttr]
  exact hV.symm
 clear hal h2 h3 h4 h5 h6 h10 a
 rintro a U ⟨rfl,hal,h10,h12⟩
 have gS:U[3]?=some (.row 19 [[.sl 5 (p.aps.map Apt.enc) p.apsx,.sl 3 (p.dts.map Dst.enc) p.dtsx,.sl 9 (t.fares.map Far.enc) t.fx,.sl 15 (t.rules.map Rul.enc) t.rx,.sl 3 (t.rous.map Rou.enc) t.ox,.sl 7 (t.taxes.map Tx.enc) t.tx,.sl 8 (w.map Wnt.enc) wx,.str s,.int .i64 sale,.nils,.nils,.nils,.int .i64 0,.nils,.nils,.nils,.int .i64 0,.int .i64 0,.bool false]]):=by rw[hV];rfl
 have gQ:U[2]?=some (.row 5 [[.nils,.nils,.nils,.int .i64 0,.int .i64 0]]):=by rw[hV];rfl
 by_cases c:0<w.length/\w.length<=6
 case neg=>
  rw[if_neg c]at ho
  subst ho
  have hb:(decide (0<w.length) && decide (w.length<=6))=false:=by
   rw[Bool.and_eq_false_iff,decide_eq_false_iff_not,decide_eq_false_iff_not]
   omega
  rw[hb]at cri
  have hgo:=Yo (a:=Ob.row 5 [[.nils,.nils,.nils,.int .i64 0,.int .i64 0]]) (lt_of_some gQ)
  simp(maxSteps:=1000000)(disch:=omega)only[push_cast,hal,h10,h12,gS,gQ,hgo,cri,Bool.not_false,Tryz.f10,↓WX,simprocAttr]
  exact⟨2,by decide,rfl⟩
 rw[if_pos c]at ho
 rw[Yn c.1,Yn c.2]at cri
 refine wc_scut (λa X=>X=U/\a.length=50/\a[10]?=some (.loc 2 0 0)/\a[12]?=some (.loc 3 0 0)) ?_ ?_
 ·simp(maxSteps:=1000000)(disch:=omega)only[push_cast,hal,h10,h12,gS,cri,Bool.not_true,Bool.and_self,↓WX,simprocAttr]
 clear hal h10 h12 a
 rintro a X ⟨rfl,hal,h10,h12⟩
 have hXl:X.length=4:=by rw[hV];rfl
 obtain⟨n',hn'⟩:∃n',n=n'+1:=⟨n-1,by omega⟩
 obtain⟨r1,T,hpr,rfl,ds,Ls,hP,hG,hL⟩:=Pprep_d (n:=n') hp ht (wx:=wx) (s:=s) (sale:=sale) (by omega) hfl gS (by omega)
 rw[<-hn']at hpr
 have cpr:∀st,callD E (dcall E n) st X 24 [.loc 3 0 0]=some (.tup [],T):=λst=>hpr
 refine wc_scut (λa Y=>Y=T/\a.length=50/\a[10]?=some (.loc 2 0 0)/\a[12]?=some (.loc 3 0 0)) ?_ ?_
 ·simp(maxSteps:=1000000)(disch:=omega)only[push_cast,hal,h10,h12,cpr,↓WX,simprocAttr]
 clear hal h10 h12 a
 rintro a Y ⟨rfl,hal,h10,h12⟩
 clear cpr hpr hV gS
 have gS2:=hP.row
 have gl:=hP.lb
 have hll:=hP.ll
 have hL0:=hL 0 (Xb _)
 have gQ2:=hP.kp 2 _ (by omega) (by decide) gQ
 have hlz:0<Ls.length:=by omega
 have hz2:((0:Int)<(w.length:Int)+1)=True:=eq_true (by omega)
 have hwp:w≠[]:=λh=>by rw[h]at c;exact absurd c.1 (by decide)
 have hptx:∀j,∀x∈(srcF (wyW p t w s sale) (amW p t w s) pctF p t w s).opts j,(j:Int)<x.to/\x.to<=w.length/\0<=x.am/\x.am<=1099511627776:=λj x hx=>by
  obtain⟨-,h1,h2,-⟩:=optF_mem hx
  have h3:x∈optJ (wyW p t w s sale) (amW p t w s) t.fares.length j (w.length-j):=hx
  exact⟨h1,h2,optJ_am ht h3⟩
 have hSea:Sea p t w wx s sale X.length (X.length+1) Y 3 Y .nils [] 0 .nils .nils .nils 0 0 false none:=
  ⟨⟨_,gS2⟩,λ_ _ _ h=>h,Yt _,gS2,.inl ⟨rfl,rfl⟩,⟨rfl,rfl,rfl,rfl⟩⟩
 have hm0:n=n-w.length-1+w.length+1:=by omega
 obtain⟨r2,Z,hfr,rfl,dp,c0,c1,c2,c3,c4,fd,hS,-⟩:=Pfrom_d (W:=wyW p t w s sale) (A:=amW p t w s) hp ht hwp (by omega) htm hP.ob hP.dl (λj d hd=>(hG j d hd).lr) hptx (λj=>by
  have h1:=optJ_len (W:=wyW p t w s sale) (A:=amW p t w s) (nf:=t.fares.length) (i:=j) (w.length-j)
  have h2:(w.length-j)*t.fares.length<=6*19:=Nat.mul_le_mul (by omega) hfl
  show (optJ (wyW p t w s sale) (amW p t w s) t.fares.length j (w.length-j)).length<=1000000
  omega) hP.lb hP.ll hL (λj r hj hr=>by
  have h:=lst_in ht hr
  have:(w.length-j:Nat)<=6:=by omega
  omega) (n-w.length-1) (by omega) w.length 0 (Xb _) (by omega) hSea ⟨by omega,by omega⟩ (λx hx=>by cases hx) (Yt _) (λh=>absurd h (Zv _))
 rw[<-hm0]at hfr
 have cfr:∀st,callD E (dcall E n) st Y 25 [.loc 3 0 0,.int .i64 0]=some (.tup [],Z):=λst=>hfr
 have gS3:=hS.row
 have gQ3:=hS.kp 2 _ (by decide) gQ2
 have hbst:=hS.bst
 unfold seaR at gS3
 generalize (srcF (wyW p t w s sale) (amW p t w s) pctF p t w s).frm w.length 0 [] 0 none=fo at*
 have hgo:=λZ':Ob=>Yo (a:=Z') (lt_of_some gQ3)
 have hgo2:=λZ':Ob=>Yo (a:=Z') (lt_of_some gQ2)
 cases hls:(srcF (wyW p t w s sale) (amW p t w s) pctF p t w s).least 0 with
 |none=>
  rw[if_pos hls]at ho
  subst ho
  rw[hls]at hL0
  have hm1:lsI none= -1:=rfl
  rw[hm1]at hL0
  simp(maxSteps:=1000000)(disch:=omega)only[push_cast,hal,h10,h12,gS2,gl,hL0,hz2,gQ2,hgo2,decide_true,Int.toNat_zero,encZ,Tryz.f10,↓WX,simprocAttr]
  exact⟨19,by decide,rfl⟩
 |some r=>
  rw[if_neg (by rw[hls];simp)]at ho
  have hr0:=(lst_in ht (show lstF (optF (wyW p t w s sale) (amW p t w s) t.fares.length w.length) w.length (w.length-0) 0=some r from hls)).1
  rw[hls]at hL0
  have hm1:lsI (some r)=r:=rfl
  rw[hm1]at hL0
  have hr1:(r= -1)=False:=eq_false (by omega)
  refine wc_scut (λa X=>X=Y/\a.length=50/\a[10]?=some (.loc 2 0 0)/\a[12]?=some (.loc 3 0 0)) ?_ ?_
  ·simp(maxSteps:=1000000)(disch:=omega)only[push_cast,hal,h10,h12,gS2,gl,hL0,hr1,hz2,decide_false,Int.toNat_zero,encZ,↓WX,simprocAttr]
  clear hal h10 h12 a
  rintro a X' ⟨rfl,hal,h10,h12⟩
  refine wc_scut (λa X=>X=Z/\a.length=50/\a[10]?=some (.loc 2 0 0)/\a[12]?=some (.loc 3 0 0)) ?_ ?_
  ·simp(maxSteps:=1000000)(disch:=omega)only[push_cast,hal,h10,h12,cfr,↓WX,simprocAttr]
  clear hal h10 h12 a
  rintro a Z' ⟨rfl,hal,h10,h12⟩
  subst ho
  cases o with
  |none=>
   obtain⟨rfl,-⟩:=hbst
   simp(maxSteps:=1000000)(disch:=omega)only[push_cast,hal,h10,h12,gS3,gQ3,hgo,Bool.not_false,Tryz.f10,↓WX,simprocAttr]
   exact⟨23,by decide,rfl⟩
  |some q=>
   obtain⟨rfl,rfl,rfl,k,rfl,-,-,h7,h8,h9⟩:=hbst
   have o1:=h8.one
   have o2:=fls_one h9
   simp only[D.one]at o1 o2
   have k1:=λZ2:Ob=>set_keepz (o:=Z2) gQ3 (show 5≠4 by decide) _ _ h7
   have k2:=λZ2:Ob=>h8.keepz (set_keepz (o:=Z2) gQ3 (by decide))
   simp(maxSteps:=1000000)(disch:=omega)only[push_cast,hal,h10,h12,gS3,gQ3,hgo,o1,o2,Bool.not_true,Tryz.f10,↓WX,simprocAttr]
   exact⟨_,_,_,rfl,k1 _,k2 _,h9⟩
end
theorem freeze_agg5 {T:List Ob} {u v:Int} {x y z x' y' z':D} (fx:freeze T 38 x=some x') (fy:freeze T 38 y=some y') (fz:freeze T 38 z=some z'):freeze T 39 (.agg [x,y,z,.int .i64 u,.int .i64 v])=some (.agg [x',y',z',.int .i64 u,.int .i64 v]):=by
 have s2:∀t,freeze T 38 (.int .i64 t)=some (.int .i64 t):=λ_=>rfl
 rw[show (39:Nat)=38+1 from rfl,freeze]
 simp only[mapO,s2,fx,fy,fz,Zw]
 split
 ·rename_i h
  simp only[D.pure,pureL_cons,pureL_nil,Yj,Bool.true_and,Ye]at h
  obtain⟨h1,h2,h3⟩:=h
  obtain rfl:=Yi ((freeze_pure h1).symm.trans fx)
  obtain rfl:=Yi ((freeze_pure h2).symm.trans fy)
  obtain rfl:=Yi ((freeze_pure h3).symm.trans fz)
  rfl
 ·rfl
theorem LQ.flz {α:Type} {sz:Nat} {enc:α->List D} {T:List Ob} {d:D} {l:List α} (h:LQ sz enc T d l) (hp:pureLL (l.map enc)=true):∃d',freeze T 38 d=some d'/\FLs sz enc d' l:=by
 rcases h with ⟨rfl,rfl⟩ | ⟨x,rfl,-⟩ | ⟨k,rfl,hk⟩
 ·exact⟨_,rfl,.inl ⟨rfl,rfl⟩⟩
 ·exact⟨_,freeze_pure (by simp only[D.pure,hp]),.inr ⟨x,rfl⟩⟩
 ·have hk:=hk []
  rw[Za]at hk
  have:=freeze_os (n:=36) (x:=false) hk hp
  rw[Yz]at this
  exact⟨_,this,.inr ⟨_,rfl⟩⟩
section
variable {n : Nat}
theorem PQuote_x {p:Plc} (hp:PlG p) {t:Trf} (ht:TrG t) (w:List Wnt) (wx:Bool) (htm:∀u∈w,u.tm) (s:ByteArray) (sale:Int) (hfl:t.fares.length<=19) (hn:80000011<=n):
  ∃r,QuoR (quoF p t w s sale) r/\∀st S,callD E (dcall E n) st S 10 [.agg p.enc,.agg t.enc,.sl 8 (w.map Wnt.enc) wx,.str s,.int .i64 sale]=some (r,S):=by
 obtain⟨m,rfl⟩:∃m,n=m+1:=⟨n-1,by omega⟩
 obtain⟨r,T,ho,hr⟩:=PQuote_d (n:=m) hp ht w wx htm s sale hfl (by omega)
 have hpp:pureL [.agg p.enc,.agg t.enc,.sl 8 (w.map Wnt.enc) wx,.str s,.int .i64 sale]=true:=by simp only[pureL_cons,pureL_nil,D.pure,Plc_pure,Trf_pure,Wnts_pure,Yj]
 generalize quoF p t w s sale=o at*
 cases o with
 |none=>
  obtain⟨e,he,rfl⟩:=hr
  exact⟨_,⟨e,he,rfl⟩,λst S=>callD_pure rfl hpp ho rfl⟩
 |some q=>
  obtain⟨k,dq,dt,rfl,h1,h2,h3⟩:=hr
  obtain⟨d1,f1,g1⟩:=LQ.flz (T:=T) (d:=.os k 0 q.parts.length false) (l:=q.parts) (enc:=Prt.enc) (.inr (.inr ⟨k,rfl,λ_=>get_old h1⟩)) (Prts_pure _)
  obtain⟨d2,f2,g2⟩:=LQ.flz h2 (encPrs_pure _)
  obtain⟨d3,f3,g3⟩:=LQ.flz h3.lq (encChs_pure _)
  exact⟨_,⟨d1,d2,d3,rfl,g1,g2,g3⟩,λst S=>callD_pure rfl hpp ho (freeze_tup2 (freeze_agg5 f1 f2 f3))⟩
end
theorem Srch.best {s:Srch} (h:s.Ok):
  (s.frm s.n 0 [] 0 none=none->∀m∈s.cands s.n 0,s.chk m=true->s.prc m=none)/\
  ∀c,s.frm s.n 0 [] 0 none=some c->(∃m∈s.cands s.n 0,s.chk m=true/\s.prc m=some c)/\∀m∈s.cands s.n 0,s.chk m=true->∀q,s.prc m=some q->betterF q c=false:=by
 have e:=(Srch.frm_fold h s.n 0 [] none (.inl (Nat.zero_add _)) (λc hc=>by cases hc)).1
 rw[show amP []=0 from rfl]at e
 simp only[Zz]at e
 rw[e]
 obtain⟨f1,f2⟩:=Srch.fold_best s (s.cands s.n 0) none
 refine⟨λh=>(f1 h).2,λc hc=>?_⟩
 obtain⟨g1,-,g3⟩:=f2 c hc
 rcases g1 with g1 |g1
 ·cases g1
 ·exact⟨g1,g3⟩
theorem better_total {q c:Quo} (h:betterF q c=false):c.total<=q.total:=by
 unfold betterF at h
 by_cases e:q.total=c.total
 ·omega
 ·rw[if_neg e]at h
  have:=Zl h
  omega
theorem Srch.cands_sub {s s':Srch} (hn:s'.n=s.n) (ho:∀i,∀x∈s'.opts i,x∈s.opts i):∀(k i:Nat),∀l∈s'.cands k i,l∈s.cands k i
 |0,i,l,h=>by rw[Srch.cands,hn]at h;rw[Srch.cands];exact h
 |k+1,i,l,h=>by
  rw[Srch.cands,hn]at h
  rw[Srch.cands]
  split at h
  ·rename_i c
   rw[if_pos c]
   exact h
  ·rename_i c
   rw[if_neg c]
   obtain⟨x,hx,h⟩:=List.mem_flatMap.1 h
   obtain⟨m,hm,rfl⟩:=Zy.1 h
   exact List.mem_flatMap.2 ⟨x,ho i x hx,Zy.2 ⟨m,Srch.cands_sub hn ho k _ m hm,rfl⟩⟩
theorem Srch.fewer {s s':Srch} (h:s.Ok) (h':s'.Ok) (hn:s'.n=s.n) (ho:∀i,∀x∈s'.opts i,x∈s.opts i) (hc:∀m∈s'.cands s.n 0,s'.chk m=true->s.chk m=true) (hp:∀m∈s'.cands s.n 0,∀q,s'.prc m=some q->s.prc m=some q) {few:Quo} (hf:s'.frm s'.n 0 [] 0 none=some few):
  s.least 0≠none/\∃q,s.frm s.n 0 [] 0 none=some q/\q.total<=few.total:=by
 obtain⟨⟨m,hm,m1,m2⟩,-⟩:=(Srch.best h').2 few hf
 rw[hn]at hm
 have hm':=Srch.cands_sub hn ho s.n 0 m hm
 have c1:=hc m hm m1
 have c2:=hp m hm few m2
 refine⟨λe=>?_,?_⟩
 ·rw[h.no 0 s.n (Xb _) e]at hm'
  cases hm'
 ·obtain⟨b1,b2⟩:=Srch.best h
  cases hq:s.frm s.n 0 [] 0 none with
  |none=>
   have:=b1 hq m hm' c1
   rw[c2]at this
   cases this
  |some q=>exact⟨q,rfl,better_total ((b2 q hq).2 m hm' c1 few c2)⟩
structure Sub (t' t:Trf):Prop where
 le:t'.fares.length<=t.fares.length
 far:∀i:Nat,i<t'.fares.length->t'.fares[i]?=t.fares[i]?
 rul:t'.rules=t.rules
 tax:t'.taxes=t.taxes
theorem Sub.kno {t' t:Trf} (h:Sub t' t) {x:Prt} (hx:knoF t' x=true):knoF t x=true/\farF t' x=farF t x:=by
 obtain⟨h0,h1,h2⟩:=knoF_far hx
 have hl:=h.le
 have e:=h.far x.fa.toNat h1
 refine⟨?_,?_⟩
 ·unfold knoF
  rw[Ym (by omega),Ym (by omega)]
  rfl
 ·unfold farF
  rw[e]
theorem Sub.prt {t' t:Trf} (h:Sub t' t) (ps:List (Int×Int)) (a:Far):∀(l:List Prt) (k:Nat),(∀x∈l,knoF t' x=true)->prtF t' ps a k l=prtF t ps a k l
 | [],k,_=>by unfold prtF;rfl
 |x::xs,k,hk=>by
  unfold prtF
  rw[(h.kno (hk x (Yx ..))).2,h.prt ps a xs (k+1) λy hy=>hk y (Yv _ hy)]
theorem Sub.prs {t' t:Trf} (h:Sub t' t):∀(l:List Prt) (i:Nat) (ps:List (Int×Int)),(∀x∈l,knoF t' x=true)->prsF t' i l ps=prsF t i l ps
 | [],i,ps,_=>by unfold prsF;rfl
 |x::xs,i,ps,hk=>by
  have hx:=hk x (Yx ..)
  have hxs:=λy hy=>hk y (Yv _ hy)
  unfold prsF
  simp only[(h.kno hx).2,h.prt ps _ xs (i+1) hxs,h.prs xs (i+1) _ hxs]
theorem Sub.all {t' t:Trf} (h:Sub t' t) {l:List Prt} (hl:l.all (knoF t')=true):l.all (knoF t)=true:=
 List.all_eq_true.2 λx hx=>(h.kno (List.all_eq_true.1 hl x hx)).1
theorem Sub.pairs {t' t:Trf} (h:Sub t' t) {l:List Prt} (hl:l.all (knoF t')=true):pairsF t' l=pairsF t l:=by
 unfold pairsF
 rw[if_pos hl,if_pos (h.all hl),h.prs l 0 [] (List.all_eq_true.1 hl)]
theorem Sub.rulF {t' t:Trf} (h:Sub t' t) {x:Prt} (hx:knoF t' x=true):rulF t' x=Dm.rulF t x:=by
 unfold Dm.rulF
 rw[h.rul,(h.kno hx).2]
theorem mxF_congr {α:Type} {f g:α->α->Bool}:∀ {l ys:List α},(∀x∈l,∀y,y∈ys∨y∈l->f x y=g x y)->mxF f ys l=mxF g ys l
 | [],ys,_=>by unfold mxF;rfl
 |x::xs,ys,h=>by
  unfold mxF
  have h1:ys.all (λy=>f x y)=ys.all (λy=>g x y):=by
   rw[Bool.eq_iff_iff,List.all_eq_true,List.all_eq_true]
   exact⟨λk y hy=>by rw[<-h x (Yx ..) y (.inl hy)];exact k y hy,λk y hy=>by rw[h x (Yx ..) y (.inl hy)];exact k y hy⟩
  rw[h1,mxF_congr (l:=xs) (ys:=ys++[x]) λz hz y hy=>?_]
  refine h z (Yv _ hz) y ?_
  rcases hy with hy |hy
  ·rcases List.mem_append.1 hy with hy |hy
   ·exact .inl hy
   ·rw[List.mem_singleton.1 hy]
    exact .inr (Yx ..)
  ·exact .inr (Yv _ hy)
theorem Sub.mixed {t' t:Trf} (h:Sub t' t) {l:List Prt} (hl:l.all (knoF t')=true):mixedF t' l=mixedF t l:=by
 have hk:=List.all_eq_true.1 hl
 unfold mixedF
 rw[if_pos hl,if_pos (h.all hl),mxF_congr (g:=λx y=>mix2F (Dm.rulF t x) (Dm.rulF t y)) λx hx y hy=>by
  rcases hy with hy |hy
  ·cases hy
  ·rw[h.rulF (hk x hx),h.rulF (hk y hy)]]
theorem fstE_congr {α:Type} {f g:α->Int}:∀ {l:List α},(∀x∈l,f x=g x)->fstE f l=fstE g l
 | [],_=>by unfold fstE;rfl
 |x::xs,h=>by
  unfold fstE
  rw[h x (Yx ..),fstE_congr λy hy=>h y (Yv _ hy)]
theorem Sub.stays {t' t:Trf} (h:Sub t' t) {p:Plc} {w:List Wnt} {l:List Prt} (hl:l.all (knoF t')=true):staysF p t' w l=staysF p t w l:=by
 have hk:=List.all_eq_true.1 hl
 unfold staysF
 rw[h.pairs hl,fstE_congr (g:=λq:Int×Int=>styF p t w (prtAt l q.1) (prtAt l q.2)) λq hq=>by
  obtain⟨a,b,c,d⟩:=pairsF_mem q hq
  obtain⟨-,e1⟩:=prtAt_at a b
  obtain⟨-,e2⟩:=prtAt_at c d
  unfold styF
  rw[h.rulF (hk _ (Yg e1)),h.rulF (hk _ (Yg e2))]]
theorem Sub.check {t' t:Trf} (h:Sub t' t) {p:Plc} {w:List Wnt} {l:List Prt} (hl:l.all (knoF t')=true):checkF p t' w l=checkF p t w l:=by
 unfold checkF
 rw[h.pairs hl,h.mixed hl,h.stays hl]
theorem Sub.sums {t' t:Trf} (h:Sub t' t) {pct:Int->Int->Int×Int} {p:Plc} {w:List Wnt} {s:ByteArray} {l:List Prt}:sumsF pct p t' w s l=sumsF pct p t w s l:=by
 unfold sumsF
 rw[h.tax]
theorem checkF_kno {p:Plc} {t:Trf} {w:List Wnt} {l:List Prt} (h:checkF p t w l=0):l.all (knoF t)=true:=by
 unfold checkF at h
 split at h
 ·split at h
  ·rename_i c
   exact List.all_eq_true.2 (pairsF_kno c)
  ·rename_i c
   exact (c h).elim
 ·cases h
theorem prcF_kno {pct:Int->Int->Int×Int} {p:Plc} {t:Trf} {w:List Wnt} {s:ByteArray} {l:List Prt} {q:Quo} (h:prcF pct p t w s l=some q):l.all (knoF t)=true:=by
 unfold prcF at h
 split at h
 ·rename_i c
  exact List.all_eq_true.2 (pairsF_kno c)
 ·cases h
theorem fewer_law {W W':Nat->Nat->Int->Int} {A A':Nat->Nat->Int->Int×Int} {pct:Int->Int->Int×Int} {p:Plc} {t t':Trf} {w:List Wnt} {s:ByteArray} (hw:w.length<=900) (hp:PctOk pct) (hs:Sub t' t) (hA:AmtOk A t.fares.length w.length) (ht:∀x∈t.taxes,0<=x.amount/\x.amount<=1099511627776)
  (eW:∀(i k:Nat) (f:Int),0<=f->f<t'.fares.length->W' i k f=W i k f) (eA:∀(i k:Nat) (f:Int),0<=f->f<t'.fares.length->A' i k f=A i k f) {few:Quo} (hf:(srcF W' A' pct p t' w s).frm w.length 0 [] 0 none=some few):
  (srcF W A pct p t w s).least 0≠none/\∃q,(srcF W A pct p t w s).frm w.length 0 [] 0 none=some q/\q.total<=few.total:=by
 have hl:=hs.le
 have hA':AmtOk A' t'.fares.length w.length:=λi k f h1 h2 h3 h4 h5=>by
  rw[eA i k f h3 h4]at h5 ⊢
  exact hA i k f h1 h2 h3 (by omega) h5
 refine Srch.fewer (srcF_ok hw hp hA ht) (srcF_ok hw hp hA' (by rw[hs.tax];exact ht)) rfl (λi x hx=>?_) (λm hm hc=>?_) (λm hm q hq=>?_) hf
 ·obtain⟨k,hk,hx⟩:=List.mem_flatMap.1 hx
  obtain⟨f,hf,rfl⟩:=Zy.1 hx
  refine List.mem_flatMap.2 ⟨k,hk,Zy.2 ⟨f,?_,rfl⟩⟩
  obtain⟨g,hg,e⟩:=List.mem_filterMap.1 hf
  have hgl:=List.mem_range.1 hg
  refine List.mem_filterMap.2 ⟨g,List.mem_range.2 (by omega),?_⟩
  rw[eW i k g (by omega) (by omega),eA i k g (by omega) (by omega)]at e
  exact e
 ·have h:decide (checkF p t' w m=0)=true:=hc
  have h:=Zk h
  rw[hs.check (checkF_kno h)]at h
  exact Yn h
 ·have h:(if m.all (λx=>decide (0<=x.am))=true then prcF pct p t' w s m else none)=some q:=hq
  show (if m.all (λx=>decide (0<=x.am))=true then prcF pct p t w s m else none)=some q
  split at h
  ·rename_i c
   rw[if_pos c]
   have hk:=prcF_kno h
   unfold prcF at h ⊢
   rw[hs.pairs hk,hs.sums]at h
   exact h
  ·cases h
theorem why_sub {p:Plc} {t t':Trf} (h:Dm.Sub t' t) (ho:t'.rous=t.rous) {k:Int} (h0:0<=k) (h1:k<t'.fares.length) (l:List Wnt) (s:ByteArray) (sale:Int):whyN p t' k l s sale=whyN p t k l s sale/\amtN p t' k l s=amtN p t k l s:=by
 have hl:=h.le
 have hf:farA t' k=farA t k:=by
  unfold farA
  rw[h.far k.toNat (by omega)]
 have hr:∀n,rulT t' n=rulT t n:=λn=>by unfold rulT;rw[h.rul]
 have hu:∀n,rouT t' n=rouT t n:=λn=>by unfold rouT;rw[ho]
 have e:outF t' k l↔outF t k l:=by
  unfold outF
  constructor <;> rintro (h |h |h) <;> first |exact .inl h |omega
 unfold whyN amtN
 by_cases c:outF t k l
 ·rw[if_pos c,if_pos (e.2 c),if_pos c,if_pos (e.2 c)]
  exact⟨rfl,rfl⟩
 ·rw[if_neg c,if_neg (λh=>c (e.1 h)),if_neg c,if_neg (λh=>c (e.1 h)),hf]
  refine⟨?_,?_⟩
  ·unfold whyG wyN
   rw[hr,hu]
  ·unfold amtG
   rw[hr,hu]
theorem amW_ok {p:Plc} {t:Trf} (ht:TrG t) {w:List Wnt} {s:ByteArray}:AmtOk (amW p t w s) t.fares.length w.length:=λi k f _ _ _ _ _=>amtN_in ht _ _ _
theorem quo_fewer {p:Plc} {t t':Trf} (ht:TrG t) (h:Dm.Sub t' t) (ho:t'.rous=t.rous) {w:List Wnt} {s:ByteArray} {sale:Int} {few:Quo} (hf:quoF p t' w s sale=some few):∃q,quoF p t w s sale=some q/\q.total<=few.total:=by
 unfold quoF at hf ⊢
 split at hf
 case isFalse=>cases hf
 rename_i c
 rw[if_pos c]
 split at hf
 ·cases hf
 obtain⟨g1,q,g2,g3⟩:=fewer_law (W:=wyW p t w s sale) (A:=amW p t w s) (W':=wyW p t' w s sale) (A':=amW p t' w s) (pct:=pctF) (p:=p) (t:=t) (t':=t') (w:=w) (s:=s) (by omega) pctOk h (amW_ok ht) (λx hx=>(ht.tg x hx).am) (λi k f h0 h1=>(why_sub h ho h0 h1 _ s sale).1) (λi k f h0 h1=>(why_sub h ho h0 h1 _ s sale).2) hf
 exact⟨q,by rw[if_neg g1];exact g2,g3⟩
theorem trg_sub {t t':Trf} (ht:TrG t) (h:Dm.Sub t' t) (ho:t'.rous=t.rous):TrG t' where
 fl:=Zu h.le ht.fl
 am:=λf hf=>by
  obtain⟨i,hi⟩:=Xd.1 hf
  rw[h.far i (lt_of_some hi)]at hi
  exact ht.am f (Yg hi)
 rl:=by rw[h.rul];exact ht.rl
 cb:=by rw[h.rul];exact ht.cb
 cn:=by rw[h.rul];exact ht.cn
 pl:=by rw[h.rul];exact ht.pl
 pc:=by rw[h.rul];exact ht.pc
 ol:=by rw[ho];exact ht.ol
 lk:=by rw[ho];exact ht.lk
 tl:=by rw[h.tax];exact ht.tl
 tg:=by rw[h.tax];exact ht.tg
 tf:=by rw[h.tax];exact ht.tf
theorem FLs.one {α:Type} {sz:Nat} {enc:α->List D} {d:D} {l:List α} (h:FLs sz enc d l):d.one=true:=by
 rcases h with ⟨rfl,-⟩ | ⟨x,rfl⟩ <;> rfl
theorem QuoR.cells {o:Option Quo} {r:D} (h:QuoR o r):∃(d1 d2 d3:D) (a b e:Int),r=.tup [.agg [d1,d2,d3,.int .i64 a,.int .i64 b],.int .i64 e]/\(d1.one=true/\d2.one=true/\d3.one=true)/\(e=0->∃q,o=some q/\b=q.total)/\∀q,o=some q->e=0/\b=q.total:=by
 cases o with
 |none=>
  obtain⟨e,he,rfl⟩:=h
  exact⟨_,_,_,_,_,_,rfl,⟨rfl,rfl,rfl⟩,λh=>absurd h he,λq h=>by cases h⟩
 |some q=>
  obtain⟨d1,d2,d3,rfl,h1,h2,h3⟩:=h
  exact⟨_,_,_,_,_,_,rfl,⟨h1.one,h2.one,h3.one⟩,λ_=>⟨q,rfl,rfl⟩,λq' h=>by rw[Yi h];exact⟨rfl,rfl⟩⟩
theorem JnyS.plg {j:Jny} (h:JnyS j) (hj:JnyB j):PlG j.p where
 apl:=hj.apl
 sh:=hj.sh
 so:=h.so
 dl:=h.fit.dl
 cz:=λa ha=>(hj.apr a ha).2.1
 dz:=hj.dst
theorem JnyS.trg {j:Jny} (h:JnyS j) (hj:JnyB j):TrG j.t where
 fl:=Zu h.fit.fl (by decide)
 am:=h.am
 rl:=Zu h.fit.rl (by decide)
 cb:=λr hr=>(hj.rul r hr).cmb
 cn:=λr hr=>(hj.rul r hr).cnd
 pl:=λr hr=>(hj.rul r hr).pcl
 pc:=λr hr=>(h.pc r hr).1
 ol:=Zu h.fit.ol (by decide)
 lk:=λr hr=>(hj.rou r hr).1
 tl:=Zu h.fit.tl (by decide)
 tg:=h.tg
 tf:=λx hx=>(hj.tax x hx).frl
def lessF (t:Trf):Trf:=⟨t.fares.take (t.fares.length-1),false,t.rules,t.rx,t.rous,t.ox,t.taxes,t.tx⟩
theorem lessF_sub (t:Trf):Dm.Sub (lessF t) t where
 le:=by show (t.fares.take _).length<=_;rw[Zn];omega
 far:=λi hi=>by
  have:i<(t.fares.take (t.fares.length-1)).length:=hi
  rw[Zn]at this
  show (t.fares.take (t.fares.length-1))[i]?=_
  rw[List.getElem?_take,if_pos (by omega)]
 rul:=rfl
 tax:=rfl
section
variable {n : Nat}
theorem PriceFewer_d (hn:90000000<=n) {j:Jny} (hj:JnyB j):WO (dcall E (n+1) 7 [.agg j.enc] []) λr T=>r=.bool true:=by
 have hex:=λst S=>ex28_c (n:=n) (by omega) st S
 obtain⟨bf,hbf,cf⟩:=fits28_s (n:=n) (by omega) hj
 have key:bf=true->∃(d1 d2 d3:D) (a b e:Int) (u1 u2 u3:D) (c d f:Int),(d1.one=true/\d2.one=true/\d3.one=true)/\(u1.one=true/\u2.one=true/\u3.one=true)/\(f=0->e=0/\b<=d)/\
   (∀st S,callD E (dcall E n) st S 10 [.agg j.p.enc,.agg j.t.enc,.sl 8 (j.l.map Wnt.enc) j.lx,.str j.pass,.int .i64 j.sale]=some (.tup [.agg [d1,d2,d3,.int .i64 a,.int .i64 b],.int .i64 e],S))/\
   ∀st S,callD E (dcall E n) st S 10 [.agg j.p.enc,.agg (lessF j.t).enc,.sl 8 (j.l.map Wnt.enc) j.lx,.str j.pass,.int .i64 j.sale]=some (.tup [.agg [u1,u2,u3,.int .i64 c,.int .i64 d],.int .i64 f],S):=λhb=>by
  have hs:=hbf hb
  have ht:=hs.trg hj
  have hfl:=hs.fit.fl
  have hsub:=lessF_sub j.t
  obtain⟨r1,q1,k1⟩:=PQuote_x (n:=n) (hs.plg hj) ht j.l j.lx hs.tm j.pass j.sale (by omega) (by omega)
  obtain⟨r2,q2,k2⟩:=PQuote_x (n:=n) (hs.plg hj) (trg_sub ht hsub rfl) j.l j.lx hs.tm j.pass j.sale (Zu hsub.le (by omega)) (by omega)
  obtain⟨d1,d2,d3,a,b,e,rfl,o1,e1,z1⟩:=q1.cells
  obtain⟨u1,u2,u3,c,d,f,rfl,o2,e2,z2⟩:=q2.cells
  refine⟨d1,d2,d3,a,b,e,u1,u2,u3,c,d,f,o1,o2,λhf=>?_,k1,k2⟩
  obtain⟨few,hq,rfl⟩:=e2 hf
  obtain⟨q,hq',hle⟩:=quo_fewer ht hsub rfl hq
  obtain⟨h1,rfl⟩:=z1 q hq'
  exact⟨h1,hle⟩
 have hfl0:bf=true->j.t.fares.length<=14:=λh=>(hbf h).fit.fl
 clear hbf
 simp only[Jny.enc,Plc.enc,Trf.enc,lessF]at cf key ⊢
 refine wo_dcall Tryz.func7 rfl (by decide) rfl 71 rfl (λa hal ha=>?_)
 have h0:a[0]?=some (.agg [.sl 5 (j.p.aps.map Apt.enc) j.p.apsx,.sl 3 (j.p.dts.map Dst.enc) j.p.dtsx,.sl 9 (j.t.fares.map Far.enc) j.t.fx,.sl 15 (j.t.rules.map Rul.enc) j.t.rx,.sl 3 (j.t.rous.map Rou.enc) j.t.ox,.sl 7 (j.t.taxes.map Tx.enc) j.t.tx,.sl 8 (j.l.map Wnt.enc) j.lx,.str j.pass,.int .i64 j.sale]):=ha 0 (by simp)
 clear ha
 have hml:(j.t.fares.map Far.enc).length=j.t.fares.length:=Yz ..
 rw[List.map_take]at key
 generalize j.p.aps.map Apt.enc=ae at*
 generalize j.p.dts.map Dst.enc=de at*
 generalize j.t.fares.map Far.enc=fe at*
 generalize j.t.rules.map Rul.enc=re at*
 generalize j.t.rous.map Rou.enc=oe at*
 generalize j.t.taxes.map Tx.enc=te at*
 generalize j.l.map Wnt.enc=we at*
 rw[<-hml]at key hfl0
 clear hml
 obtain⟨S0,hS0⟩:∃S0,S0=[Ob.row 9 [[.sl 5 ae j.p.apsx,.sl 3 de j.p.dtsx,.sl 9 fe j.t.fx,.sl 15 re j.t.rx,.sl 3 oe j.t.ox,.sl 7 te j.t.tx,.sl 8 we j.lx,.str j.pass,.int .i64 j.sale]]]:=⟨_,rfl⟩
 have g0:S0[0]?=some (Ob.row 9 [[.sl 5 ae j.p.apsx,.sl 3 de j.p.dtsx,.sl 9 fe j.t.fx,.sl 15 re j.t.rx,.sl 3 oe j.t.ox,.sl 7 te j.t.tx,.sl 8 we j.lx,.str j.pass,.int .i64 j.sale]]):=by rw[hS0];rfl
 refine wc_scut (λa V=>V=S0/\a.length=71/\a[1]?=some (.loc 0 0 0)) ?_ ?_
 ·simp(maxSteps:=1000000)(disch:=omega)only[push_cast,hal,h0,↓WX,simprocAttr]
  exact hS0.symm
 clear hal h0 a
 rintro a V ⟨rfl,hal,h1⟩
 cases bf
 ·simp(maxSteps:=1000000)(disch:=omega)only[push_cast,hal,h1,g0,cf,hex,Tryz.f7,↓WX,simprocAttr]
 obtain⟨d1,d2,d3,x1,x2,e,u1,u2,u3,y1,y2,f,⟨o1,o2,o3⟩,⟨p1,p2,p3⟩,hle,q1,q2⟩:=key rfl
 simp only[D.one]at o1 o2 o3 p1 p2 p3
 cases c0:decide ((fe.length:Int)=0)
 case true=>
  simp(maxSteps:=1000000)(disch:=omega)only[push_cast,hal,h1,g0,cf,hex,c0,dUn,Bool.not_true,Tryz.f7,↓WX,simprocAttr]
 refine wc_scut (λa V'=>V'=V/\a.length=71/\a[1]?=some (.loc 0 0 0)) ?_ ?_
 ·simp(maxSteps:=1000000)(disch:=omega)only[push_cast,hal,h1,g0,cf,c0,dUn,Bool.not_true,↓WX,simprocAttr]
 clear hal h1 a
 rintro a V' ⟨rfl,hal,h1⟩
 have hfl1:=hfl0 rfl
 have hpos:0<fe.length:=by have:=Zl c0;omega
 have hge:(0<=(fe.length:Int)-1)=True:=eq_true (by omega)
 have htn:((fe.length:Int)-1).toNat=fe.length-1:=by omega
 have hlw:IntKind.i64.wrap ((fe.length:Int)-1)=(fe.length:Int)-1:=wrap_ok (by omega) (by omega)
 have hlt:fe.length-1<=fe.length:=by omega
 have hne:¬fe.length-1=fe.length:=by omega
 have gk:∀J,(V'++J)[0]?=some (Ob.row 9 [[.sl 5 ae j.p.apsx,.sl 3 de j.p.dtsx,.sl 9 fe j.t.fx,.sl 15 re j.t.rx,.sl 3 oe j.t.ox,.sl 7 te j.t.tx,.sl 8 we j.lx,.str j.pass,.int .i64 j.sale]]):=λJ=>get_old g0
 refine wc_scut (λa W=>W=V'++[Ob.row 4 [[.sl 9 fe j.t.fx,.sl 15 re j.t.rx,.sl 3 oe j.t.ox,.sl 7 te j.t.tx]]]/\a.length=71/\a[1]?=some (.loc 0 0 0)/\a[3]?=some (.loc V'.length 0 0)) ?_ ?_
 ·simp(maxSteps:=1000000)(disch:=omega)only[push_cast,hal,h1,g0,set_end,get_end,↓WX,simprocAttr]
 clear hal h1 a
 rintro a W ⟨rfl,hal,h1,h3⟩
 refine wc_scut (λa W=>W=V'++[Ob.row 4 [[.sl 9 (fe.take (fe.length-1)) false,.sl 15 re j.t.rx,.sl 3 oe j.t.ox,.sl 7 te j.t.tx]]]/\a.length=71/\a[1]?=some (.loc 0 0 0)/\a[3]?=some (.loc V'.length 0 0)) ?_ ?_
 ·simp(maxSteps:=1000000)(disch:=omega)only[push_cast,hal,h1,h3,hlw,hge,htn,hlt,hne,Xb,and_self,Nat.sub_zero,List.drop_zero,decide_false,Bool.and_false,set_end,get_end,↓WX,simprocAttr]
 clear hal h1 h3 a
 rintro a W ⟨hW,hal,h1,h3⟩
 have w0:=gk [Ob.row 4 [[.sl 9 (fe.take (fe.length-1)) false,.sl 15 re j.t.rx,.sl 3 oe j.t.ox,.sl 7 te j.t.tx]]]
 have w3:W[V'.length]?=some (Ob.row 4 [[.sl 9 (fe.take (fe.length-1)) false,.sl 15 re j.t.rx,.sl 3 oe j.t.ox,.sl 7 te j.t.tx]]):=by rw[hW];exact get_end
 rw[<-hW]at w0
 clear hW gk
 generalize V'.length=k3 at*
 refine wc_scut (λa X=>X=W++[Ob.row 5 [[d1,d2,d3,.int .i64 x1,.int .i64 x2]]]/\a.length=71/\a[1]?=some (.loc 0 0 0)/\a[3]?=some (.loc k3 0 0)/\a[4]?=some (.loc W.length 0 0)/\a[5]?=some (.int .i64 e)) ?_ ?_
 ·simp(maxSteps:=1000000)(disch:=omega)only[push_cast,hal,h1,h3,w0,q1,o1,o2,o3,set_end,get_end,↓WX,simprocAttr]
 clear hal h1 h3 a
 rintro a X ⟨hX,hal,h1,h3,h4,h5⟩
 have y0:=get_old (J:=[Ob.row 5 [[d1,d2,d3,.int .i64 x1,.int .i64 x2]]]) w0
 have y3:=get_old (J:=[Ob.row 5 [[d1,d2,d3,.int .i64 x1,.int .i64 x2]]]) w3
 have y4:X[W.length]?=some (Ob.row 5 [[d1,d2,d3,.int .i64 x1,.int .i64 x2]]):=by rw[hX];exact get_end
 rw[<-hX]at y0 y3
 clear hX
 generalize W.length=k4 at*
 refine wc_scut (λa Y=>Y=X++[Ob.row 5 [[u1,u2,u3,.int .i64 y1,.int .i64 y2]]]/\a.length=71/\a[4]?=some (.loc k4 0 0)/\a[5]?=some (.int .i64 e)/\a[6]?=some (.loc X.length 0 0)/\a[7]?=some (.int .i64 f)) ?_ ?_
 ·simp(maxSteps:=1000000)(disch:=omega)only[push_cast,hal,h1,h3,h4,h5,y0,y3,q2,p1,p2,p3,set_end,get_end,↓WX,simprocAttr]
 clear hal h1 h3 h4 h5 a
 rintro a Y ⟨hY,hal,h4,h5,h6,h7⟩
 have z4:=get_old (J:=[Ob.row 5 [[u1,u2,u3,.int .i64 y1,.int .i64 y2]]]) y4
 have z6:Y[X.length]?=some (Ob.row 5 [[u1,u2,u3,.int .i64 y1,.int .i64 y2]]):=by rw[hY];exact get_end
 rw[<-hY]at z4
 clear hY
 generalize X.length=k6 at*
 cases e1:decide (f=0)
 ·simp(maxSteps:=1000000)(disch:=omega)only[push_cast,decide_not,hal,h7,e1,hex,Bool.not_false,Tryz.f7,↓WX,simprocAttr]
 ·obtain⟨he,hxy⟩:=hle (Zk e1)
  have e2:decide (e=0)=true:=Yn he
  simp(maxSteps:=1000000)(disch:=omega)only[push_cast,decide_not,hal,h4,h5,h6,h7,e1,e2,z4,z6,hxy,hex,Bool.not_true,decide_true,Tryz.f7,↓WX,simprocAttr]
end
end Go.Proofs.YtaklebjoenophaaGreat.Dm
