/-
  The reference's miles between two places: the length of the shortest way.
  Whether a condition holds, and whether a rule allows a trip: the program, exactly.
-/
import Derived.Test.YtaklebjoenophaaGreatPrL
import Derived.Test.YtaklebjoenophaaGreatPrI
set_option maxHeartbeats 64000000
set_option maxRecDepth 100000
set_option linter.unusedSimpArgs false
set_option linter.unusedVariables false
namespace Go.Proofs.YtaklebjoenophaaGreat.Dm
open Go Gw
section
variable {n : Nat}
theorem RMiles_x (p:Plc) (hpa:p.aps.length<=1048576) (hpd:p.dts.length<=20) (hn:50000000<=n) (s t:ByteArray):∃q e:Int,MilS p s t q e/\∀st S,Yi E (Yb E n) st S 192 [.agg p.enc,.str s,.str t]=some (.tup [.int .i64 q,.int .i64 e],S):=by
 obtain⟨m,rfl⟩:∃m,n=m+1:=⟨n-1,by omega⟩
 have hp:=Yt p
 have k1:=λst S=>rCity_c (n:=m) (p:=p) (s:=s) (by omega) (by omega) st S
 have k2:=λst S=>rCity_c (n:=m) (p:=p) (s:=t) (by omega) (by omega) st S
 simp only[Plc.enc]at hp k1 k2 ⊢
 obtain⟨M,hM⟩:∃M:Int->Int->Prop,∀q e,M q e↔MilS p s t q e:=⟨_,λ_ _=>Iff.rfl⟩
 have hM':=hM
 unfold MilS at hM
 generalize Kb p s=c at k1 hM
 generalize Kb p t=g at k2 hM
 obtain⟨Sn,hSn⟩:∃Sn:List (ByteArray×Int)->Prop,∀l,Sn l↔Snd p.dts c l:=⟨_,λ_=>Iff.rfl⟩
 obtain⟨Fin,hFin⟩:∃Fin:List (ByteArray×Int)->Prop,∀l,Fin l↔((∀q∈l,0<=q.2)/\∀x∈p.dts,x.ok->ClsD l x):=⟨_,λ_=>Iff.rfl⟩
 have hns:(nsF c p.dts).length<=41:=by rw[nsF_len];omega
 have:WO (Yb E (m+1) 192 [.agg [.sl 5 (p.aps.map Apt.enc) p.apsx,.sl 3 (p.dts.map Dst.enc) p.dtsx],.str s,.str t] []) λr T=>∃q e:Int,r=.tup [.int .i64 q,.int .i64 e]/\M q e:=by
  refine Ye Tryz.func192 rfl (by decide) rfl 97 rfl (λa hal ha=>?_)
  obtain⟨h0,h1,h2⟩:=aQ3 ha
  clear ha
  obtain⟨P0,hP0⟩:∃P0:Ob,P0=Ob.row 2 [[.sl 5 (p.aps.map Apt.enc) p.apsx,.sl 3 (p.dts.map Dst.enc) p.dtsx]]:=⟨_,rfl⟩
  refine Ya (λa V=>V=[P0]/\gQ a 97 (a[3]?=some (.loc 0 0 0)) [(1,.str s),(2,.str t)]) ?_ ?_
  ·simp only[push_cast,hal,h0,h1,h2,↓WX,simprocAttr]
   rw[hP0]
  rintro a V ⟨hV,hal,h1,h2,h3⟩
  have hV0:V[0]?=some (Ob.row 2 [[.sl 5 (p.aps.map Apt.enc) p.apsx,.sl 3 (p.dts.map Dst.enc) p.dtsx]]):=by rw[hV,<-hP0];rfl
  have hVl:1<=V.length:=by rw[hV];exact Uk _
  clear hV hP0
  refine Ya (λa W=>W=V/\gQ a 97 (a[9]?=some (.str g)) [(3,.loc 0 0 0),(8,.str c)]) ?_ ?_
  ·simp only[push_cast,hal,h1,h2,h3,hV0,k1,k2,↓WX,simprocAttr]
  rintro a W ⟨rfl,hal,h3,h8,h9⟩
  by_cases e1:c=ByteArray.mk #[]
  ·have d1:decide (c=ByteArray.mk #[])=true:=Ue e1
   simp only[push_cast,hal,h8,d1,Yo,Tryz.f192,↓WX,simprocAttr]
   exact⟨_,_,rfl,(hM _ _).2 (by rw[if_pos (.inl e1)];exact⟨rfl,rfl⟩)⟩
  have d1:decide (c=ByteArray.mk #[])=false:=Ud e1
  by_cases e2:g=ByteArray.mk #[]
  ·have d2:decide (g=ByteArray.mk #[])=true:=Ue e2
   simp only[push_cast,hal,h8,h9,d1,d2,Yo,Tryz.f192,↓WX,simprocAttr]
   exact⟨_,_,rfl,(hM _ _).2 (by rw[if_pos (.inr e2)];exact⟨rfl,rfl⟩)⟩
  have d2:decide (g=ByteArray.mk #[])=false:=Ud e2
  refine Ya (λa V=>V=W/\gQ a 97 (a[9]?=some (.str g)) [(3,.loc 0 0 0),(8,.str c)]) ?_ ?_
  ·simp only[push_cast,hal,h3,h8,h9,d1,d2,Yo,↓WX,simprocAttr]
  rintro a V ⟨rfl,hal,h3,h8,h9⟩
  refine Ya (λa W=>W=V/\gQ a 97 (a[10]?=some (.sl 2 [[.str c,.int .i64 0]] true)) [(3,.loc 0 0 0),(9,.str g)]) ?_ ?_
  ·simp only[push_cast,hal,h3,h8,h9,↓WX,simprocAttr]
  rintro a W ⟨rfl,hal,h3,h9,h10⟩
  refine Ya (λa V=>V=W/\gQ a 97 (a[11]?=some (.bool true)) [(3,.loc 0 0 0),(9,.str g),(10,.sl 2 [[.str c,.int .i64 0]] true)]) ?_ ?_
  ·simp only[push_cast,hal,h3,h9,h10,↓WX,simprocAttr]
  rintro a V ⟨rfl,hal,h3,h9,h10,h11⟩
  have hg1:∀q∈[(c,(0:Int))],q=(c,0):=λq hq=>by simpa using hq
  have hg0:Gd (nsF c p.dts) [(c,0)]:=⟨by simp,λq hq=>by rw[hg1 q hq];exact Uo,λq hq=>by rw[hg1 q hq];exact Int.le_refl _,λq hq=>by rw[hg1 q hq];exact Int.le_refl _⟩
  have hS0:Sn [(c,0)]:=(hSn _).2 ⟨by rw[rch_cons,if_pos rfl],λq hq=>by
   obtain rfl:q=(c,0):=by simpa using hq
   exact .nil⟩
  obtain⟨M0,hM0⟩:∃M0,M0=muF (nsF c p.dts) [(c,0)]:=⟨_,rfl⟩
  have hMb:M0<=36900000:=by
   rw[hM0]
   unfold muF
   have:sumV [(c,(0:Int))]=0:=by simp[sumV]
   rw[this]
   omega
  refine Ya (λa T=>(∃d l,a[10]?=some d/\SpI c 1 T d l/\l.length<=100/\Sn l/\Fin l)/\a.length=97/\a[9]?=some (.str g)) ?_ ?_
  ·simp only[push_cast,↓WX]
   refine Yk (λi a T=>(∃d l b,a[10]?=some d/\a[11]?=some (.bool b)/\SpI c 1 T d l/\Gd (nsF c p.dts) l/\T[0]?=some (Ob.row 2 [[.sl 5 (p.aps.map Apt.enc) p.apsx,.sl 3 (p.dts.map Dst.enc) p.dtsx]])/\1<=T.length/\(b=true->i+muF (nsF c p.dts) l<=M0)/\(i+muF (nsF c p.dts) l<=M0+1)/\Sn l/\(b=false->Fin l))/\a.length=97/\a[3]?=some (.loc 0 0 0)/\a[9]?=some (.str g)) (M0+1) ?_ (by omega) ?_
   ·simp only[push_cast,hal,h3,h9,h10,h11]
    exact⟨_,_,_,rfl,rfl,.inl ⟨rfl,rfl⟩,hg0,hV0,hVl,λ_=>by rw[<-hM0];omega,by rw[<-hM0];omega,hS0,λh=>by cases h⟩
   rintro i a T hi ⟨⟨d,l,b,h10,h11,hs,hg,hT0,hTl,hb1,hb2,hsn,hfi⟩,hal,h3,h9⟩
   cases b
   ·simp only[push_cast,hal,h9,h10,h11,↓WX,simprocAttr]
    have:=hg.len
    exact⟨_,_,rfl,hs,by omega,hsn,hfi rfl⟩
   replace hb1:=hb1 rfl
   have hlt:i<M0+1:=by omega
   obtain⟨Cl,hC0,hCs,hCl⟩:=takeP p.dts λx=>x.ok->ClsD l x
   clear hfi
   refine Ya (λa V=>V=T/\gQ a 97 (a[10]?=some (d)) [(3,.loc 0 0 0),(9,.str g)]) ?_ ?_
   ·simp only[push_cast,hal,h3,h9,h10,h11,↓WX,simprocAttr]
   rintro a V ⟨rfl,hal,h3,h9,h10⟩
   rw[Yx]
   refine Ya (λa W=>W=V/\gQ a 97 (a[11]?=some (.bool false)) [(3,.loc 0 0 0),(9,.str g),(10,d)]) ?_ ?_
   ·simp only[push_cast,hal,h3,h9,h10,↓WX,simprocAttr]
   rintro a W ⟨rfl,hal,h3,h9,h10,h11⟩
   simp only[push_cast,↓WX,simprocAttr]
   refine Yk (λj a T=>(∃d' l' b',a[10]?=some d'/\a[11]?=some (.bool b')/\SpI c 1 T d' l'/\Gd (nsF c p.dts) l'/\T[0]?=some (Ob.row 2 [[.sl 5 (p.aps.map Apt.enc) p.apsx,.sl 3 (p.dts.map Dst.enc) p.dtsx]])/\1<=T.length/\(b'=true->muF (nsF c p.dts) l'+1<=muF (nsF c p.dts) l)/\muF (nsF c p.dts) l'<=muF (nsF c p.dts) l/\Sn l'/\(b'=false->l'=l/\Cl j))/\a.length=97/\a[3]?=some (.loc 0 0 0)/\a[9]?=some (.str g)/\a[12]?=some (.int .i64 j)) p.dts.length ?_ (by omega) ?_
   ·simp only[push_cast,hal,h3,h9,h10,h11,simprocAttr,WY]
    exact⟨_,_,_,rfl,rfl,hs,hg,hT0,hTl,λh=>(by cases h),Uk _,hsn,λ_=>⟨rfl,hC0⟩⟩
   clear hs hT0 hTl
   rintro j a T hj ⟨⟨d',l',b',h10,h11,hs,hg',hT0,hTl,hm1,hm2,hsn',hcl⟩,hal,h3,h9,h12⟩
   rcases Kw hj with hjlt |rfl
   case inr=>
    simp only[push_cast,hal,h3,h9,h10,h11,h12,hT0,hlt,↓WX,simprocAttr,WY]
    exact⟨_,_,_,rfl,rfl,hs,hg',hTl,λh=>by have:=hm1 h;omega,by omega,hsn',λh=>by
     obtain⟨rfl,hcc⟩:=hcl h
     exact (hFin _).2 ⟨hg'.lo,hCl hcc⟩⟩
   have hjc:(j:Int)<p.dts.length:=by omega
   obtain⟨x,hx⟩:∃x,p.dts[j]?=some x:=⟨p.dts[j],by simp⟩
   have hxm:=Kx hx
   refine Ya (λa V=>V=T/\gQ a 97 (a[12]?=some (.int .i64 j)) [(3,.loc 0 0 0),(9,.str g),(10,d'),(11,.bool b')]) ?_ ?_
   ·simp only[push_cast,hal,h3,h9,h10,h11,h12,hT0,hjc,↓WX,simprocAttr]
   rintro a V ⟨rfl,hal,h3,h9,h10,h11,h12⟩
   have hs1:=hs.push (.row 3 [x.enc])
   have hT1:(V++[Ob.row 3 [x.enc]])[0]?=some (Ob.row 2 [[.sl 5 (p.aps.map Apt.enc) p.apsx,.sl 3 (p.dts.map Dst.enc) p.dtsx]]):=Ym hT0
   have hd1:(V++[Ob.row 3 [x.enc]])[V.length]?=some (.row 3 [x.enc]):=Yl
   have hl1:1<=(V++[Ob.row 3 [x.enc]]).length:=by rw[Ku];omega
   rw[Zx,Yx]
   refine Ya (λa W=>W=V++[.row 3 [x.enc]]/\gQ a 97 (a[13]?=some (.loc V.length 0 0)) [(3,.loc 0 0 0),(9,.str g),(10,d'),(11,.bool b'),(12,.int .i64 j)]) ?_ ?_
   ·simp only[push_cast,hal,h3,h9,h10,h11,h12,hT0,hx,Yq,Yl,Dst.enc,↓WX,simprocAttr]
   rintro a W ⟨rfl,hal,h3,h9,h10,h11,h12,h13⟩
   generalize V++[Ob.row 3 [x.enc]]=W at*
   generalize V.length=z at*
   have ku:=λst S=>Pusable_c (n:=m) (by omega) x st S
   simp only[Dst.enc]at ku hd1
   by_cases u1:1<=x.mi/\x.mi<=20000
   case neg=>
    have uf:(decide (1<=x.mi) && decide (x.mi<=20000))=false:=by
     rw[Bool.eq_false_iff]
     intro h
     rw[Kv,Up,Up]at h
     exact u1 h
    rw[uf]at ku
    simp(disch:=omega)only[push_cast,hal,h3,h9,h10,h11,h12,h13,hd1,ku,hjlt,Yf,↓WX,simprocAttr,WY]
    exact⟨_,_,_,rfl,rfl,hs1,hg',hT1,hl1,hm1,hm2,hsn',λh=>⟨(hcl h).1,hCs j x hx (hcl h).2 λhk=>absurd hk u1⟩⟩
   have uf:(decide (1<=x.mi) && decide (x.mi<=20000))=true:=by
    rw[Kv,Up,Up]
    exact u1
   rw[uf]at ku
   have hlen:=hg'.len
   have cr1:=reached_at (n:=m) hs1 (by omega) (by omega) x.fr
   have cr2:=reached_at (n:=m) hs1 (by omega) (by omega) x.to
   have hw1:=rchF_hi (s:=x.fr) hg'
   have hw2:=rchF_hi (s:=x.to) hg'
   have hwk1:0<=rchF x.fr l'->Wk p.dts c x.to (rchF x.fr l'+x.mi):=λh=>.fr hxm u1 (((hSn _).1 hsn').ways _ (rchF_mem h))
   have hwk2:0<=rchF x.to l'->Wk p.dts c x.fr (rchF x.to l'+x.mi):=λh=>.to hxm u1 (((hSn _).1 hsn').ways _ (rchF_mem h))
   obtain⟨w1,hw1e⟩:∃w1,w1=rchF x.fr l':=⟨_,rfl⟩
   obtain⟨w2,hw2e⟩:∃w2,w2=rchF x.to l':=⟨_,rfl⟩
   rw[<-hw1e]at cr1 hw1 hwk1
   rw[<-hw2e]at cr2 hw2 hwk2
   obtain⟨K1,hK1⟩:∃K1:Prop,K1↔(0<=w1->0<=w2/\w2<=w1+x.mi):=⟨_,Iff.rfl⟩
   refine Ya (λa V=>V=W/\gQ a 97 (a[13]?=some (.loc z 0 0)) [(3,.loc 0 0 0),(9,.str g),(10,d'),(11,.bool b'),(12,.int .i64 j)]) ?_ ?_
   ·simp only[push_cast,hal,h3,h9,h10,h11,h12,h13,hd1,ku,↓WX,simprocAttr,WY]
   rintro a V ⟨rfl,hal,h3,h9,h10,h11,h12,h13⟩
   refine Ya (λa W=>W=V/\gQ a 97 (a[15]?=some (.int .i64 w2)) [(3,.loc 0 0 0),(9,.str g),(10,d'),(11,.bool b'),(12,.int .i64 j),(13,.loc z 0 0),(14,.int .i64 w1)]) ?_ ?_
   ·simp only[push_cast,hal,h3,h9,h10,h11,h12,h13,hd1,cr1,cr2,↓WX,simprocAttr]
   rintro a W ⟨rfl,hal,h3,h9,h10,h11,h12,h13,h14,h15⟩
   refine Ya (λa V=>V=W/\gQ a 97 (a[15]?=some (.int .i64 w2)) [(3,.loc 0 0 0),(9,.str g),(10,d'),(11,.bool b'),(12,.int .i64 j),(13,.loc z 0 0),(14,.int .i64 w1)]) ?_ ?_
   ·simp only[push_cast,hal,h3,h9,h10,h11,h12,h13,h14,h15,↓WX,simprocAttr]
   rintro a V ⟨rfl,hal,h3,h9,h10,h11,h12,h13,h14,h15⟩
   refine Ya (λa T=>(∃d1 l1 b1,a[10]?=some d1/\a[11]?=some (.bool b1)/\SpI c 1 T d1 l1/\Gd (nsF c p.dts) l1/\T[0]?=some (Ob.row 2 [[.sl 5 (p.aps.map Apt.enc) p.apsx,.sl 3 (p.dts.map Dst.enc) p.dtsx]])/\1<=T.length/\T[z]?=some (.row 3 [[.str x.fr,.str x.to,.int .i64 x.mi]])/\l'.length<=l1.length/\(b1=true->muF (nsF c p.dts) l1+1<=muF (nsF c p.dts) l)/\muF (nsF c p.dts) l1<=muF (nsF c p.dts) l/\Sn l1/\(b1=false->b'=false/\l1=l'/\K1))/\gQ a 97 (a[15]?=some (.int .i64 w2)) [(3,.loc 0 0 0),(9,.str g),(12,.int .i64 j),(13,.loc z 0 0)]) ?_ ?_
   ·by_cases q1:w1>=0
    case neg=>
     have dq:decide (w1>=0)=false:=Ud q1
     simp only[push_cast,hal,h3,h9,h10,h11,h12,h13,h14,h15,dq,↓WX,simprocAttr]
     exact⟨_,_,_,rfl,rfl,hs1,hg',hT1,hl1,hd1,Uk _,hm1,hm2,hsn',λh=>⟨h,rfl,hK1.2 λh=>absurd h q1⟩⟩
    have dq:decide (w1>=0)=true:=Ue q1
    have hw:=hw1 q1
    obtain⟨r,U,cre,hsU,hkU,hlU⟩:=reach_at (n:=m) hs1 hl1 (by omega) (by omega) x.to (w1+x.mi) (by omega)
    obtain⟨gU,mU,nU⟩:=reF_good (s:=x.to) (v:=w1+x.mi) hg' hns (nsF_to hxm) (by omega) (by omega)
    have hll:l'.length<=(reF x.to (w1+x.mi) l').1.length:=by
     rcases reF_cases x.to (w1+x.mi) l' with ⟨-,h⟩ | ⟨_,_,-,-,⟨-,h⟩ | ⟨-,h⟩⟩
     ·rw[h];simp
     ·rw[h];exact Uk _
     ·rw[h];simp
    have sU:Sn (reF x.to (w1+x.mi) l').1:=(hSn _).2 (((hSn _).1 hsn').re hg'.lo (by omega) (hwk1 q1))
    have fU:=λh=>reF_false (s:=x.to) (v:=w1+x.mi) hg'.lo h
    rw[<-hw2e]at fU
    generalize reF x.to (w1+x.mi) l'=q at*
    obtain⟨l2,b2⟩:=q
    dsimp only at cre hsU gU mU nU hll sU fU
    have hTU:=hkU _ _ (.inl Nat.zero_lt_one) hT1
    have hdU:=hkU _ _ (.inr (λes h=>by cases h)) hd1
    cases b'
    ·simp(maxSteps:=1000000)(disch:=omega)only[push_cast,hal,h3,h9,h10,h11,h12,h13,h14,h15,dq,hd1,cre,Yf,↓WX,simprocAttr]
     exact⟨_,_,_,rfl,rfl,hsU,gU,hTU,by omega,hdU,hll,λh=>by have:=nU h;omega,by omega,sU,λh=>⟨(fU h).1,hK1.2 λ_=>(fU h).2⟩⟩
    ·simp(maxSteps:=1000000)(disch:=omega)only[push_cast,hal,h3,h9,h10,h11,h12,h13,h14,h15,dq,hd1,cre,Yf,↓WX,simprocAttr]
     exact⟨_,_,_,rfl,rfl,hsU,gU,hTU,by omega,hdU,hll,λh=>by have:=hm1 rfl;omega,by omega,sU,λh=>by cases h⟩
   clear hs1 hT1 hl1 hd1 cr1 cr2 hm1 hm2 hs hT0 hTl
   rintro a W ⟨⟨d1,l1,b1,h10,h11,hs1,hg1,hT1,hl1,hd1,hll1,hm1,hm2,hsn1,hcl1⟩,hal,h3,h9,h12,h13,h15⟩
   have hlen1:=hg1.len
   have step:(0<=w2->0<=w1/\w1<=w2+x.mi)->b'=false->K1->l'=l/\Cl (j+1):=λh2 hb hk=>by
    obtain⟨rfl,hcc⟩:=hcl hb
    refine⟨rfl,hCs j x hx hcc λ_=>?_⟩
    unfold ClsD
    rw[<-hw1e,<-hw2e]
    exact⟨hK1.1 hk,h2⟩
   by_cases q1:w2>=0
   case neg=>
    have dq:decide (w2>=0)=false:=Ud q1
    simp(disch:=omega)only[push_cast,hal,h3,h9,h10,h11,h12,h15,dq,hjlt,Yf,↓WX,simprocAttr,WY]
    exact⟨_,_,_,rfl,rfl,hs1,hg1,hT1,hl1,hm1,hm2,hsn1,λh=>by
     obtain⟨g1,rfl,g3⟩:=hcl1 h
     exact step (λh=>absurd h q1) g1 g3⟩
   have dq:decide (w2>=0)=true:=Ue q1
   have hw:=hw2 q1
   obtain⟨r,U,cre,hsU,hkU,hlU⟩:=reach_at (n:=m) hs1 hl1 (by omega) (by omega) x.fr (w2+x.mi) (by omega)
   obtain⟨gU,mU,nU⟩:=reF_good (s:=x.fr) (v:=w2+x.mi) hg1 hns (nsF_fr hxm) (by omega) (by omega)
   have sU:Sn (reF x.fr (w2+x.mi) l1).1:=(hSn _).2 (((hSn _).1 hsn1).re hg1.lo (by omega) (hwk2 q1))
   have fU:=λh=>reF_false (s:=x.fr) (v:=w2+x.mi) hg1.lo h
   generalize reF x.fr (w2+x.mi) l1=q at*
   obtain⟨l2,b2⟩:=q
   dsimp only at cre hsU gU mU nU sU fU
   have hTU:=hkU _ _ (.inl Nat.zero_lt_one) hT1
   cases b1
   ·simp(disch:=omega)only[push_cast,hal,h3,h9,h10,h11,h12,h13,h15,dq,hd1,cre,hjlt,Yf,↓WX,simprocAttr,WY]
    exact⟨_,_,_,rfl,rfl,hsU,gU,hTU,by omega,λh=>by have:=nU h;omega,by omega,sU,λh=>by
     obtain⟨g1,rfl,g3⟩:=hcl1 rfl
     obtain⟨f1,f2,f3⟩:=fU h
     rw[f1]
     exact step (λ_=>by rw[hw1e];exact⟨f2,f3⟩) g1 g3⟩
   ·simp(disch:=omega)only[push_cast,hal,h3,h9,h10,h11,h12,h13,h15,dq,hd1,cre,hjlt,Yf,↓WX,simprocAttr,WY]
    exact⟨_,_,_,rfl,rfl,hsU,gU,hTU,by omega,λh=>by have:=hm1 rfl;omega,by omega,sU,λh=>by cases h⟩
  clear hV0 hVl hg0
  rintro a T ⟨⟨d,l,h10,hs,hl,hsn,hfi⟩,hal,h9⟩
  have cr:=reached_at (n:=m) hs (by omega) (by omega) g
  have hdone:=((hSn _).1 hsn).done ((hFin _).1 hfi).1 ((hFin _).1 hfi).2 g
  generalize rchF g l=w at cr hdone
  have hcg:¬(c=ByteArray.mk #[]∨g=ByteArray.mk #[]):=λh=>h.elim e1 e2
  by_cases q:w<0
  ·rw[if_pos q,if_pos q]at hdone
   simp only[push_cast,hal,h9,h10,cr,q,Tryz.f192,↓WX,simprocAttr]
   exact⟨_,_,rfl,(hM _ _).2 (by rw[if_neg hcg];exact hdone)⟩
  ·rw[if_neg q,if_neg q]at hdone
   simp only[push_cast,hal,h9,h10,cr,q,Tryz.f192,↓WX,simprocAttr]
   exact⟨_,_,rfl,(hM _ _).2 (by rw[if_neg hcg];exact hdone)⟩
 obtain⟨_,T,ho,q,e,rfl,hq⟩:=this
 exact⟨q,e,(hM' q e).1 hq,λst S=>Yd rfl (by simp only[Yc,Yg,D.pure,Ua]at hp ⊢;exact hp) ho rfl⟩
end
mutual
def holP (t:Trp):Cnd->Bool
 | .mk k l _ a b pf pt pd c _=>
  if k=1 then true
  else if k=2 then !ayP t false l
  else if k=3 then ayP t true l
  else if k=4 then ayP t false l
  else if k=5 then perF pf pt pd t.day
  else if k=6 then perF pf pt pd t.sale
  else if k=7 then decide (IntKind.i64.wrap (t.day-t.sale)>=a)
  else if k=8 then if a<=b then decide (t.mnt>=a) && decide (t.mnt<=b) else decide (t.mnt>=a) || decide (t.mnt<=b)
  else if k=9 then decide (t.stops<=a)
  else if k=10 then decide (t.trs<=a)
  else if k=11 then t.cars.all λs=>c.any λx=>decide (x=s)
  else if k=12 then t.nums.all λx=> !(decide (x<a) || decide (x>b))
  else if k=13 then t.vias.all λs=>c.any λx=>decide (x=s)
  else if k=14 then c.any λx=>decide (x=t.typ)
  else false
def ayP (t:Trp) (b:Bool):List Cnd->Bool
 | []=>false
 |c::cs=>(holP t c == b) || ayP t b cs
end
theorem ayP_any (t:Trp) (b:Bool):∀l:List Cnd,ayP t b l=l.any λc=>holP t c == b
 | []=>rfl
 |c::cs=>by rw[ayP,List.any_cons,ayP_any t b cs]
def alwP (o:Option Rul) (t:Trp):Int:=match o with |none=>20 |some r=>if holP t r.when=true then 0 else 20
section
variable {n : Nat}
theorem PAm1_c {ck:Nat} {e:D} {c:List ByteArray} {S:List Ob} (ht:S[ck]?=some (.row 1 [[e]])) (g:FLs 1 Cnd.encT e c) (hc:c.length<=1048576) (hn:1048700<=n) (s:ByteArray):
  ∃T,Yi E (Yb E (n+1)) false S 211 [.str s,.loc ck 0 0]=some (.bool (!c.any λx=>decide (x=s)),T)/\ExtS S T:=by
 have cc:=PContS_x (n:=n) g hc s (by omega)
 generalize (c.any λx=>decide (x=s))=b at*
 have:WO (Yb E (n+1) 211 [.str s,.loc ck 0 0] S) λd T=>d=.bool (!b)/\ExtS S T:=by
  refine Ye Tryz.func211 rfl (by decide) rfl 8 rfl (λa hal ha=>?_)
  obtain⟨h0,h1⟩:=aQ2 ha
  clear ha
  simp only[push_cast,hal,h0,h1,ht,cc,Tryz.f211,↓WX,simprocAttr]
  exact ExtS.refl
 obtain⟨r,T,hT,rfl,h⟩:=this
 exact⟨T,(Jk rfl (by simp[Yp,D.pure])).trans hT,h⟩
theorem PAmong_x {d e:D} {l c:List ByteArray} (h:FLs 1 Cnd.encT d l) (hl:l.length<=1048576) (g:FLs 1 Cnd.encT e c) (hc:c.length<=1048576) (hn:1048900<=n):∀st S,Yi E (Yb E n) st S 173 [d,e]=some (.bool (l.all λs=>c.any λx=>decide (x=s)),S):=by
 obtain⟨m,rfl⟩:∃m,n=m+4:=⟨n-4,by omega⟩
 have hp:=Xr h (Cnd.encT_pure l)
 have hpe:=Xr g (Cnd.encT_pure c)
 have o2:=Yv g
 simp only[D.one]at o2
 obtain⟨T,cT,-⟩:=PCtS_d (n:=m) (S:=[Ob.row 1 [[e]]]) (F:=211) (ys:=[.loc 0 0 0]) (p:=λs=> !c.any λx=>decide (x=s)) h (by omega) hl rfl (λT hx s _=>PAm1_c (n:=m) (hx 0 _ rfl) g hc (by omega) s)
 have hal':(l.all λs=>c.any λx=>decide (x=s))= !(l.any λs=> !c.any λx=>decide (x=s)):=List.all_eq_not_any_not
 rw[hal']
 generalize (l.any λs=> !c.any λx=>decide (x=s))=b at*
 have oc:e.cells=[e]:=by rcases g with ⟨rfl,-⟩ | ⟨x,rfl⟩ <;> rfl
 simp only[D.cells]at oc
 have:WO (Yb E (m+4) 173 [d,e] []) λr T=>r=.bool (!b):=by
  refine Ye Tryz.func173 rfl (by decide) rfl 9 rfl (λa hal ha=>?_)
  obtain⟨h0,h1⟩:=aQ2 ha
  clear ha
  simp only[push_cast,hal,h0,h1,o2,oc,cT,Tryz.f173,↓WX,simprocAttr]
 obtain⟨_,T,ho,rfl⟩:=this
 exact λst S=>Yd rfl (by simp only[Yc,Yg,hp,hpe,Ua]) ho rfl
theorem PHl3_c {ck:Nat} {k u v pf pt pd:Int} {x1 x2:D} {S:List Ob} (ht:S[ck]?=some (.row 8 [[.int .i64 k,x1,.int .i64 u,.int .i64 v,.int .i64 pf,.int .i64 pt,.int .i64 pd,x2]])) (q:Int):
  ∃T,Yi E (Yb E (n+1)) false S 175 [.int .i64 q,.loc ck 0 0]=some (.bool (decide (q<u) || decide (q>v)),T)/\ExtS S T:=by
 have:WO (Yb E (n+1) 175 [.int .i64 q,.loc ck 0 0] S) λd T=>d=.bool (decide (q<u) || decide (q>v))/\ExtS S T:=by
  refine Ye Tryz.func175 rfl (by decide) rfl 14 rfl (λa hal ha=>?_)
  obtain⟨h0,h1⟩:=aQ2 ha
  clear ha
  cases e1:decide (q<u)
  ·simp only[push_cast,Vn,hal,h0,h1,ht,e1,Bool.false_or,Tryz.f175,↓WX,simprocAttr]
   exact ExtS.refl
  ·simp only[push_cast,Vn,hal,h0,h1,ht,e1,Bool.true_or,Tryz.f175,↓WX,simprocAttr]
   exact ExtS.refl
 obtain⟨r,T,hT,rfl,h⟩:=this
 exact⟨T,(Jk rfl (by simp[Yp,D.pure])).trans hT,h⟩
theorem PHl1_c {ck:Nat} {c:Cnd} {t:Trp} {x y z:D} {b:Bool} {S:List Ob} (hk:t.Ok x y z) (ht:S[ck]?=some (.row 9 [t.enc x y z])) (hf:∀st S,Yi E (Yb E n) st S 119 [.agg c.enc,.agg (t.enc x y z)]=some (.bool b,S)):
  ∃T,Yi E (Yb E (n+1)) false S 169 [.agg c.enc,.loc ck 0 0]=some (.bool b,T)/\ExtS S T:=by
 have ht':=Ym (J:=[Ob.row 8 [c.enc]]) ht
 have:WO (Yb E (n+1) 169 [.agg c.enc,.loc ck 0 0] S) λd T=>d=.bool b/\ExtS S T:=by
  cases c with |mk k' l' lx' u' v' pf' pt' pd' t' tx'=>?_
  simp only[Cnd.enc]at hf ht' ⊢
  simp only[Trp.enc]at hf ht'
  refine Ye Tryz.func169 rfl (by decide) rfl 7 rfl (λa hal ha=>?_)
  obtain⟨h0,h1⟩:=aQ2 ha
  clear ha
  simp only[push_cast,hal,h0,h1,ht',hf,Yl,Tryz.f169,↓WX,simprocAttr]
  exact ExtS.refl.push _
 obtain⟨r,T,hT,rfl,h⟩:=this
 exact⟨T,(Jk rfl (by simp[Yp,D.pure])).trans hT,h⟩
theorem PHl2_c {ck:Nat} {c:Cnd} {t:Trp} {x y z:D} {b:Bool} {S:List Ob} (hk:t.Ok x y z) (ht:S[ck]?=some (.row 9 [t.enc x y z])) (hf:∀st S,Yi E (Yb E n) st S 119 [.agg c.enc,.agg (t.enc x y z)]=some (.bool b,S)):
  ∃T,Yi E (Yb E (n+1)) false S 170 [.agg c.enc,.loc ck 0 0]=some (.bool (!b),T)/\ExtS S T:=by
 have ht':=Ym (J:=[Ob.row 8 [c.enc]]) ht
 have:WO (Yb E (n+1) 170 [.agg c.enc,.loc ck 0 0] S) λd T=>d=.bool (!b)/\ExtS S T:=by
  cases c with |mk k' l' lx' u' v' pf' pt' pd' t' tx'=>?_
  simp only[Cnd.enc]at hf ht' ⊢
  simp only[Trp.enc]at hf ht'
  refine Ye Tryz.func170 rfl (by decide) rfl 8 rfl (λa hal ha=>?_)
  obtain⟨h0,h1⟩:=aQ2 ha
  clear ha
  simp only[push_cast,hal,h0,h1,ht',hf,Yl,Tryz.f170,↓WX,simprocAttr]
  exact ExtS.refl.push _
 obtain⟨r,T,hT,rfl,h⟩:=this
 exact⟨T,(Jk rfl (by simp[Yp,D.pure])).trans hT,h⟩
end
theorem PHolds_x {t:Trp} {x y z:D} (ht:t.Ok x y z):∀(m:Nat) (n:Nat) (c:Cnd),Yn c.enc<=m->m<=1048576->1100000+4*m<=n->∀st S,Yi E (Yb E n) st S 119 [.agg c.enc,.agg (t.enc x y z)]=some (.bool (holP t c),S)
 |0,n,.mk k l lx u v pf pt pd tx xx,h,_,_=>by simp only[Cnd.enc,Yn,Zy]at h;omega
 |m+1,n,.mk k l lx u v pf pt pd tx xx,h,hm,hn=>by
  obtain⟨n,rfl⟩:∃n',n=n'+5:=⟨n-5,by omega⟩
  have hp:=Cnd.pure (.mk k l lx u v pf pt pd tx xx)
  have hb:=h
  simp only[Cnd.enc,Yn,Zy]at hb
  have hl:=Cnd.len_le l
  have htl:=text_len tx
  have htx:FLs 1 Cnd.encT (.sl 1 (tx.map Cnd.encT) xx) tx:=.inr ⟨_,rfl⟩
  have ih:∀c∈l,∀st S,Yi E (Yb E (n+1)) st S 119 [.agg c.enc,.agg (t.enc x y z)]=some (.bool (holP t c),S):=λc hc st S=>by
   obtain⟨i,hi⟩:=List.getElem?_of_mem hc
   have:=Cnd.bulk_get hi
   exact PHolds_x ht m (n+1) c (by omega) (by omega) (by omega) st S
  obtain⟨V0,hV0⟩:∃V0:List Ob,V0=[Ob.row 8 [[.int .i64 k,.sl 8 (Cnd.encs l) lx,.int .i64 u,.int .i64 v,.int .i64 pf,.int .i64 pt,.int .i64 pd,.sl 1 (tx.map Cnd.encT) xx]],Ob.row 9 [t.enc x y z]]:=⟨_,rfl⟩
  have g0:V0[0]?=some (Ob.row 8 [[.int .i64 k,.sl 8 (Cnd.encs l) lx,.int .i64 u,.int .i64 v,.int .i64 pf,.int .i64 pt,.int .i64 pd,.sl 1 (tx.map Cnd.encT) xx]]):=by rw[hV0];rfl
  have g1:V0[1]?=some (Ob.row 9 [t.enc x y z]):=by rw[hV0];rfl
  obtain⟨T1,cy,-⟩:=PCtC_d (n:=n+1) (S:=V0) (lx:=lx) (F:=169) (ys:=[.loc 1 0 0]) (p:=λc=>holP t c) (l:=l) (by omega) (by omega) rfl (λT hx c hc=>PHl1_c (n:=n+1) ht (hx 1 _ g1) (ih c hc))
  obtain⟨T2,cn,-⟩:=PCtC_d (n:=n+1) (S:=V0) (lx:=lx) (F:=170) (ys:=[.loc 1 0 0]) (p:=λc=> !holP t c) (l:=l) (by omega) (by omega) rfl (λT hx c hc=>PHl2_c (n:=n+1) ht (hx 1 _ g1) (ih c hc))
  obtain⟨T3,cz,-⟩:=PCtZ_d (n:=n+1) (S:=V0) (F:=175) (ys:=[.loc 0 0 0]) (p:=λq=>decide (q<u) || decide (q>v)) ht.hy (by omega) ht.ly rfl (λT hx q _=>PHl3_c (n:=n+1) (hx 0 _ g0) q)
  have ey:(l.any λc=>holP t c)=ayP t true l:=by rw[ayP_any];simp
  have en:(l.any λc=> !holP t c)=ayP t false l:=by rw[ayP_any];simp
  have ez:(t.nums.all λx=> !(decide (x<u) || decide (x>v)))= !(t.nums.any λq=>decide (q<u) || decide (q>v)):=by rw[List.all_eq_not_any_not];simp
  rw[ey]at cy
  rw[en]at cn
  have ch:=λd=>PHas04_x (n:=n+4) (by omega) pf pt pd d
  have cw1:=PAmong_x (n:=n+4) ht.hx ht.lx htx (by omega) (by omega)
  have cw2:=PAmong_x (n:=n+4) ht.hz ht.lz htx (by omega) (by omega)
  have cs:=PContS_x (n:=n+4) htx (by omega) t.typ (by omega)
  have hp2:=ht.pure
  have o1:=Yv ht.hx
  have o2:=Yv ht.hy
  have o3:=Yv ht.hz
  simp only[D.one]at o1 o2 o3
  simp only[Trp.enc,Cnd.enc]at hp hp2 hV0 g1 ⊢
  clear ih
  have:WO (Yb E (n+5) 119 [.agg [.int .i64 k,.sl 8 (Cnd.encs l) lx,.int .i64 u,.int .i64 v,.int .i64 pf,.int .i64 pt,.int .i64 pd,.sl 1 (tx.map Cnd.encT) xx],.agg [.str t.typ,.int .i64 t.sale,.int .i64 t.day,.int .i64 t.mnt,.int .i64 t.stops,.int .i64 t.trs,x,y,z]] []) λr T=>r=.bool (holP t (.mk k l lx u v pf pt pd tx xx)):=by
   rw[holP,ez]
   generalize ayP t true l=q1 at*
   generalize ayP t false l=q2 at*
   generalize (t.cars.all λs=>tx.any λx=>decide (x=s))=b1 at*
   generalize (t.nums.any λq=>decide (q<u) || decide (q>v))=b2 at*
   generalize (t.vias.all λs=>tx.any λx=>decide (x=s))=b3 at*
   generalize (tx.any λx=>decide (x=t.typ))=b4 at*
   have ch1:=ch t.day
   have ch2:=ch t.sale
   generalize perF pf pt pd t.day=b5 at*
   generalize perF pf pt pd t.sale=b6 at*
   obtain⟨typ,sale,day,mnt,stops,trs,cars,nums,vias⟩:=t
   dsimp only at*
   refine Ye Tryz.func119 rfl (by decide) rfl 129 rfl (λa hal ha=>?_)
   obtain⟨h0,h1⟩:=aQ2 ha
   clear ha
   refine Ya (λa V=>V=V0/\gQ a 129 (a[3]?=some (.loc 1 0 0)) [(2,.loc 0 0 0)]) ?_ ?_
   ·simp only[push_cast,hal,h0,h1,o1,o2,o3,↓WX,simprocAttr]
    exact hV0.symm
   clear hV0
   rintro a V ⟨rfl,hal,h2,h3⟩
   refine Ya (λa W=>W=V/\gQ a 129 (a[5]?=some (.func 169 [] [.loc 1 0 0])) [(2,.loc 0 0 0),(3,.loc 1 0 0)]) ?_ ?_
   ·simp only[push_cast,hal,h2,h3,↓WX,simprocAttr]
   rintro a W ⟨rfl,hal,h2,h3,h5⟩
   refine Ya (λa V=>V=W/\gQ a 129 (a[6]?=some (.func 170 [] [.loc 1 0 0])) [(2,.loc 0 0 0),(3,.loc 1 0 0),(5,.func 169 [] [.loc 1 0 0])]) ?_ ?_
   ·simp only[push_cast,hal,h2,h3,h5,↓WX,simprocAttr]
   rintro a V ⟨rfl,hal,h2,h3,h5,h6⟩
   by_cases k1:k=1
   ·subst k1
    simp only[push_cast,hal,h2,g0,Tryz.f119,↓WX,simprocAttr,WY]
   by_cases k2:k=2
   ·subst k2
    simp only[push_cast,hal,h2,h6,g0,cn,Tryz.f119,↓WX,simprocAttr,WY]
   by_cases k3:k=3
   ·subst k3
    simp only[push_cast,hal,h2,h5,g0,cy,Tryz.f119,↓WX,simprocAttr,WY]
   by_cases k4:k=4
   ·subst k4
    simp only[push_cast,hal,h2,h6,g0,cn,Tryz.f119,↓WX,simprocAttr,WY]
   by_cases k5:k=5
   ·subst k5
    simp only[push_cast,hal,h2,h3,g0,g1,ch1,Tryz.f119,↓WX,simprocAttr,WY]
   by_cases k6:k=6
   ·subst k6
    simp only[push_cast,hal,h2,h3,g0,g1,ch2,Tryz.f119,↓WX,simprocAttr,WY]
   by_cases k7:k=7
   ·subst k7
    simp only[push_cast,hal,h2,h3,g0,g1,Tryz.f119,↓WX,simprocAttr,WY]
   by_cases k8:k=8
   ·subst k8
    by_cases e:u<=v
    ·cases e1:decide (mnt>=u)
     ·simp only[push_cast,hal,h2,h3,g0,g1,e,e1,Tryz.f119,↓WX,simprocAttr,WY]
     ·simp only[push_cast,hal,h2,h3,g0,g1,e,e1,Tryz.f119,↓WX,simprocAttr,WY]
    ·cases e1:decide (mnt>=u)
     ·simp only[push_cast,hal,h2,h3,g0,g1,e,e1,Bool.false_or,Tryz.f119,↓WX,simprocAttr,WY]
     ·simp only[push_cast,hal,h2,h3,g0,g1,e,e1,Bool.true_or,Tryz.f119,↓WX,simprocAttr,WY]
   by_cases k9:k=9
   ·subst k9
    simp only[push_cast,hal,h2,h3,g0,g1,Tryz.f119,↓WX,simprocAttr,WY]
   by_cases k10:k=10
   ·subst k10
    simp only[push_cast,hal,h2,h3,g0,g1,Tryz.f119,↓WX,simprocAttr,WY]
   by_cases k11:k=11
   ·subst k11
    simp only[push_cast,hal,h2,h3,g0,g1,cw1,Tryz.f119,↓WX,simprocAttr,WY]
   by_cases k12:k=12
   ·subst k12
    simp only[push_cast,hal,h2,h3,g0,g1,cz,Tryz.f119,↓WX,simprocAttr,WY]
   by_cases k13:k=13
   ·subst k13
    simp only[push_cast,hal,h2,h3,g0,g1,cw2,Tryz.f119,↓WX,simprocAttr,WY]
   by_cases k14:k=14
   ·subst k14
    simp only[push_cast,hal,h2,h3,g0,g1,cs,Tryz.f119,↓WX,simprocAttr,WY]
   simp only[push_cast,hal,h2,g0,k1,k2,k3,k4,k5,k6,k7,k8,k9,k10,k11,k12,k13,k14,Tryz.f119,↓WX,simprocAttr,WY]
  obtain⟨_,T,hr,rfl⟩:=this
  exact λst S=>Yd rfl (by simp only[Yc,Yg,D.pure,hp,hp2,Ua]) hr rfl
section
variable {n : Nat}
theorem PHolds_z {t:Trp} {x y z:D} (ht:t.Ok x y z) (hn:1<=n):∀st S,Yi E (Yb E n) st S 119 [.agg [.int .i64 0,.nils,.int .i64 0,.int .i64 0,.int .i64 0,.int .i64 0,.int .i64 0,.nils],.agg (t.enc x y z)]=some (.bool false,S):=by
 obtain⟨m,rfl⟩:∃m,n=m+1:=⟨n-1,by omega⟩
 have hp2:=ht.pure
 have o1:=Yv ht.hx
 have o2:=Yv ht.hy
 have o3:=Yv ht.hz
 simp only[D.one]at o1 o2 o3
 simp only[Trp.enc]at hp2 ⊢
 have:WO (Yb E (m+1) 119 [.agg [.int .i64 0,.nils,.int .i64 0,.int .i64 0,.int .i64 0,.int .i64 0,.int .i64 0,.nils],.agg [.str t.typ,.int .i64 t.sale,.int .i64 t.day,.int .i64 t.mnt,.int .i64 t.stops,.int .i64 t.trs,x,y,z]] []) λr T=>r=.bool false:=by
  refine Ye Tryz.func119 rfl (by decide) rfl 129 rfl (λa hal ha=>?_)
  obtain⟨h0,h1⟩:=aQ2 ha
  clear ha
  simp only[push_cast,hal,h0,h1,o1,o2,o3,Tryz.f119,↓WX,simprocAttr,WY]
 obtain⟨_,T,hr,rfl⟩:=this
 exact λst S=>Yd rfl (by simp only[Yc,Yg,D.pure,hp2,Ua]) hr rfl
theorem PAllows21_x {t:Trp} {x y z:D} (ht:t.Ok x y z) (o:Option Rul) (hb:∀r,o=some r->Yn r.when.enc<=1048576) (hn:5300010<=n):∀st S,Yi E (Yb E n) st S 63 [rulD o,.agg (t.enc x y z)]=some (.int .i64 (alwP o t),S):=by
 obtain⟨m,rfl⟩:∃m,n=m+1:=⟨n-1,by omega⟩
 have hone:x.one=true/\y.one=true/\z.one=true:=⟨Yv ht.hx,Yv ht.hy,Yv ht.hz⟩
 cases o with
 |none=>
  have hz:=PHolds_z (n:=m) ht (by omega)
  exact PAllows_x (n:=m) (y0:=0) rfl rfl t ht hone false hz
 |some r=>
  have hc:=PHolds_x ht 1048576 m r.when (hb r rfl) (by omega) (by omega)
  have hp:=Rul_pure r
  simp only[rulD,alwP]
  generalize holP t r.when=b at*
  obtain⟨w,hw⟩:∃w,r.when=w:=⟨_,rfl⟩
  have hxe:Rul.enc r=.int .i64 r.num::(w.enc++[.sl 1 (r.comb.map encZ) r.combx,.int .i64 r.mins,.int .i64 r.maxs,.int .i64 r.chg,.int .i64 r.ref,.sl 2 (r.pcs.map encPc) r.pcx]):=by rw[<-hw];rfl
  rw[hw]at hc
  cases w with |mk k' l' lx' u' v' pf' pt' pd' t' tx'=>?_
  simp only[Cnd.enc,Uv,Vr]at hxe hc
  rw[hxe]at hp ⊢
  exact PAllows_x (n:=m) rfl (by simp only[Yc,Yg,D.pure,hp,Ua]) t ht hone b hc
end
end Go.Proofs.YtaklebjoenophaaGreat.Dm
