/-
  The miles between two cities: the program, exactly.
  Components of a journey that have fares and that cover it, the rules and the days of components: the program, exactly.
-/
import Derived.Test.YtaklebjoenophaaGreatPrL
import Derived.Test.YtaklebjoenophaaGreatPrK
set_option maxHeartbeats 64000000
set_option maxRecDepth 100000
set_option linter.unusedSimpArgs false
set_option linter.unusedVariables false
namespace Go.Proofs.YtaklebjoenophaaGreat.Dm
open Go Gw
abbrev kSt:TypeId:=9
theorem keyOk_st {s:ByteArray} (h:s.size<=1048576):keyOk Tryz.prog kSt (.str s)=true:=by
 have m1:s.size<=maxLen:=by simp only[maxLen];omega
 unfold keyOk
 simp only[litV,litC]
 unfold keyOf
 rw[Tryz.underlying9]
 dsimp only
 unfold mapKey
 rw[Tryz.underlying9]
 simp[m1]
theorem keys_st:E.keys kSt=true:=by kernel_rfl
theorem und_mi:Tryz.prog.underlying 247=some (.map kSt 3):=Tryz.underlying247
def encM (p:ByteArray×Int):D×D:=(.str p.1,.int .i64 p.2)
theorem look_M (s:ByteArray):∀l:List (ByteArray×Int),(∀p∈l,0<=p.2)->Jp (l.map encM) (.str s)=if rchF s l<0 then none else some (.int .i64 (rchF s l))
 | [],_=>by rw[rchF,if_pos (by omega)];rfl
 |p::ps,h=>by
  have hp:=h p (Uo ..)
  have ih:=look_M s ps λq hq=>h q (Um _ hq)
  unfold Jp at ih ⊢
  rw[Uy,List.find?_cons]
  have hk:Yz (encM p).1 (.str s)=decide (p.1=s):=rfl
  rw[hk]
  unfold rchF
  by_cases c:p.1=s
  ·rw[Ue c,if_pos c,if_neg (by omega)]
   rfl
  ·rw[Ud c,if_neg c]
   exact ih
theorem put_M (s:ByteArray) (v:Int):∀l:List (ByteArray×Int),(rchF s l<0∨v<rchF s l)->(∀p∈l,0<=p.2)->putM (l.map encM) (.str s) (.int .i64 v)=(reF s v l).1.map encM/\(reF s v l).2=true
 | [],_,_=>⟨rfl,rfl⟩
 |p::ps,h,g=>by
  have hp:=g p (Uo ..)
  rw[Uy]
  have hk:Yz (encM p).1 (.str s)=decide (p.1=s):=rfl
  unfold encM at hk ⊢
  dsimp only at hk ⊢
  unfold putM reF
  rw[hk]
  unfold rchF at h
  by_cases c:p.1=s
  ·rw[if_pos c]at h
   rw[if_pos (Ue c),if_pos c,if_neg (by omega)]
   exact⟨rfl,rfl⟩
  ·rw[if_neg c]at h
   obtain⟨e1,e2⟩:=put_M s v ps h λq hq=>g q (Um _ hq)
   rw[if_neg (by simpa using c),if_neg c]
   unfold encM at e1
   dsimp only
   rw[e1,e2]
   exact⟨rfl,rfl⟩
section
variable {n : Nat}
theorem Prelax_c {ck km:Nat} {l:List (ByteArray×Int)} {S:List Ob} (gk:S[ck]?=some (.row 1 [[.map km]])) (gm:S[km]?=some (.map kSt (l.map encM))) (hp:∀p∈l,0<=p.2/\p.2<=1000000) (x y:ByteArray) (hxz:x.size<=1048576) (hyz:y.size<=1048576) (v:Int) (hv:0<=v) (hv2:v<=20000):
  Yi E (Yb E (n+1)) false S 215 [.str x,.str y,.int .i64 v,.loc ck 0 0]=some (.bool (rlxF x y v l).2,S.set km (.map kSt ((rlxF x y v l).1.map encM))):=by
 have ko1:=keyOk_st hxz
 have ko2:=keyOk_st hyz
 have ks:=keys_st
 have hp0:∀p∈l,0<=p.2:=λp h=>(hp p h).1
 have lx:=look_M x l hp0
 have ly:=look_M y l hp0
 have hid:S.set km (.map kSt (l.map encM))=S:=by
  apply List.ext_getElem?
  intro i
  by_cases e:km=i
  ·subst e
   rw[Uf (Kr.1 gm).1,gm]
  ·rw[Kt e]
 have zi:Ji Tryz.prog 3=some (.int .i64 0):=by kernel_rfl
 have:WO (Yb E (n+1) 215 [.str x,.str y,.int .i64 v,.loc ck 0 0] S) λr T=>r=.bool (rlxF x y v l).2/\T=S.set km (.map kSt ((rlxF x y v l).1.map encM)):=by
  refine Ye Tryz.func215 rfl (by decide) rfl 41 rfl (λa hal ha=>?_)
  obtain⟨h0,h1,h2,h3⟩:=aQ4 ha
  clear ha
  by_cases c1:rchF x l<0
  ·have hr:rlxF x y v l=(l,false):=by unfold rlxF;rw[if_pos c1]
   rw[hr,hid]
   rw[if_pos c1]at lx
   by_cases c2:rchF y l<0
   ·rw[if_pos c2]at ly
    simp only[push_cast,hal,h0,h1,h3,gk,gm,ko1,ko2,ks,lx,ly,zi,und_mi,Tryz.f215,↓WX,simprocAttr,WY]
   ·rw[if_neg c2]at ly
    simp only[push_cast,hal,h0,h1,h3,gk,gm,ko1,ko2,ks,lx,ly,zi,und_mi,Tryz.f215,↓WX,simprocAttr,WY]
  ·rw[if_neg c1]at lx
   have hx:rchF x l<=1000000:=(hp _ (rchF_mem (by omega))).2
   have hw:IntKind.i64.wrap (rchF x l+v)=rchF x l+v:=Yf (by omega) (by omega)
   have hr:rlxF x y v l=reF y (rchF x l+v) l:=by unfold rlxF;rw[if_neg c1]
   rw[hr]
   by_cases c2:rchF y l<0
   ·rw[if_pos c2]at ly
    obtain⟨e1,e2⟩:=put_M y (rchF x l+v) l (.inl c2) hp0
    rw[e2,<-e1]
    simp only[push_cast,hal,h0,h1,h2,h3,gk,gm,ko1,ko2,ks,lx,ly,zi,und_mi,hw,Tryz.f215,↓WX,simprocAttr,WY]
   ·rw[if_neg c2]at ly
    by_cases c3:rchF y l<=rchF x l+v
    ·have hf:=reF_le (s:=y) (v:=rchF x l+v) (l:=l) (by omega) c3
     rw[hf,hid]
     simp only[push_cast,hal,h0,h1,h2,h3,gk,gm,ko1,ko2,ks,lx,ly,zi,und_mi,hw,c3,Tryz.f215,↓WX,simprocAttr,WY]
    ·obtain⟨e1,e2⟩:=put_M y (rchF x l+v) l (.inr (by omega)) hp0
     rw[e2,<-e1]
     simp only[push_cast,hal,h0,h1,h2,h3,gk,gm,ko1,ko2,ks,lx,ly,zi,und_mi,hw,c3,Tryz.f215,↓WX,simprocAttr,WY]
 obtain⟨r,T,hT,rfl,rfl⟩:=this
 exact (Jk rfl (by simp[Yp,D.pure])).trans hT
theorem Pusb_c (hn:1<=n) (c:Dst):∀st S,Yi E (Yb E n) st S 216 [.agg c.enc]=some (.bool (decide (1<=c.mi) && decide (c.mi<=20000)),S):=by
 obtain⟨m,rfl⟩:∃m,n=m+1:=⟨n-1,by omega⟩
 have:WO (Yb E (m+1) 216 [.agg c.enc] []) λd T=>d=.bool (decide (1<=c.mi) && decide (c.mi<=20000)):=by
  simp only[Dst.enc]
  refine Ye Tryz.func216 rfl (by decide) rfl 11 rfl (λa hal ha=>?_)
  have h0:=aQ1 ha
  clear ha
  cases e:decide (1<=c.mi)
  ·simp only[push_cast,hal,h0,e,Vx,Tryz.f216,↓WX,simprocAttr,WY]
  ·simp only[push_cast,hal,h0,e,Vx,Tryz.f216,↓WX,simprocAttr,WY]
 obtain⟨_,T,ho,rfl⟩:=this
 exact λst S=>Yd rfl (by simp[Yc,Yg,D.pure,Dst.enc]) ho rfl
theorem cityS_size {p:Plc} (h:∀a∈p.aps,a.city.size<=1048576) (s:ByteArray):(Kb p s).size<=1048576:=by
 unfold Kb
 split
 ·rename_i a ha
  exact h a (List.mem_of_find?_eq_some ha)
 ·split
  ·rename_i a ha
   have h1:=List.find?_some ha
   have h2:=h a (List.mem_of_find?_eq_some ha)
   rw[<-ba_eq h1]
   exact h2
  ·exact Vt _
theorem PMiles_x (p:Plc) (hpa:p.aps.length<=1048576) (hpd:p.dts.length<=20) (hcz:∀a∈p.aps,a.city.size<=1048576) (hdz:∀x∈p.dts,x.fr.size<=1048576/\x.to.size<=1048576) (hn:50000000<=n) (s t:ByteArray):∃q e:Int,MilS p s t q e/\∀st S,Yi E (Yb E n) st S 179 [.agg p.enc,.str s,.str t]=some (.tup [.int .i64 q,.int .i64 e],S):=by
 obtain⟨m,rfl⟩:∃m,n=m+1+1:=⟨n-2,by omega⟩
 have hp:=Yt p
 have k1:=λst S=>City_c (n:=m+1) (p:=p) (s:=s) (by omega) (by omega) st S
 have k2:=λst S=>City_c (n:=m+1) (p:=p) (s:=t) (by omega) (by omega) st S
 have hc1:=cityS_size hcz s
 have hg1:=cityS_size hcz t
 unfold MilS
 simp only[Plc.enc]at hp k1 k2 ⊢
 generalize Kb p s=c at*
 generalize Kb p t=g at*
 have hns:(nsF c p.dts).length<=41:=by rw[nsF_len];omega
 have ko1:=keyOk_st hc1
 have ko2:=keyOk_st hg1
 have ks:=keys_st
 have zi:Ji Tryz.prog 3=some (.int .i64 0):=by kernel_rfl
 obtain⟨R,hR⟩:∃R:Int->Int->Prop,∀q e,R q e↔(if c=ByteArray.mk #[]∨g=ByteArray.mk #[] then q=0/\e=14 else MilR p.dts c g q e):=⟨λq e=>(if c=ByteArray.mk #[]∨g=ByteArray.mk #[] then q=0/\e=14 else MilR p.dts c g q e),λ_ _=>Iff.rfl⟩
 have hR1:(c=ByteArray.mk #[]∨g=ByteArray.mk #[])->R 0 14:=λh=>by rw[hR,if_pos h];exact⟨rfl,rfl⟩
 have hR2:¬(c=ByteArray.mk #[]∨g=ByteArray.mk #[])->∀q e,MilR p.dts c g q e->R q e:=λh q e k=>by rw[hR,if_neg h];exact k
 have:WO (Yb E (m+1+1) 179 [.agg [.sl 5 (p.aps.map Apt.enc) p.apsx,.sl 3 (p.dts.map Dst.enc) p.dtsx],.str s,.str t] []) λr T=>∃q e:Int,R q e/\r=.tup [.int .i64 q,.int .i64 e]:=by
  refine Ye Tryz.func179 rfl (by decide) rfl 78 rfl (λa hal ha=>?_)
  obtain⟨h0,h1,h2⟩:=aQ3 ha
  clear ha
  obtain⟨P0,hP0⟩:∃P0:Ob,P0=Ob.row 2 [[.sl 5 (p.aps.map Apt.enc) p.apsx,.sl 3 (p.dts.map Dst.enc) p.dtsx]]:=⟨_,rfl⟩
  refine Ya (λa V=>V=[P0]/\gQ a 78 (a[3]?=some (.loc 0 0 0)) [(1,.str s),(2,.str t)]) ?_ ?_
  ·simp only[push_cast,hal,h0,h1,h2,↓WX,simprocAttr]
   rw[hP0]
  rintro a V ⟨hV,hal,h1,h2,h3⟩
  have hV0:V[0]?=some (Ob.row 2 [[.sl 5 (p.aps.map Apt.enc) p.apsx,.sl 3 (p.dts.map Dst.enc) p.dtsx]]):=by rw[hV,<-hP0];rfl
  refine Ya (λa W=>W=V/\gQ a 78 (a[9]?=some (.str g)) [(3,.loc 0 0 0),(8,.str c)]) ?_ ?_
  ·simp only[push_cast,hal,h1,h2,h3,hV0,k1,k2,↓WX,simprocAttr]
  rintro a W ⟨rfl,hal,h3,h8,h9⟩
  by_cases e1:c=ByteArray.mk #[]
  ·have d1:decide (c=ByteArray.mk #[])=true:=Ue e1
   simp only[push_cast,hal,h8,d1,Yo,Tryz.f179,↓WX,simprocAttr]
   exact⟨_,_,hR1 (.inl e1),rfl⟩
  have d1:decide (c=ByteArray.mk #[])=false:=Ud e1
  by_cases e2:g=ByteArray.mk #[]
  ·have d2:decide (g=ByteArray.mk #[])=true:=Ue e2
   simp only[push_cast,hal,h8,h9,d1,d2,Yo,Tryz.f179,↓WX,simprocAttr]
   exact⟨_,_,hR1 (.inr e2),rfl⟩
  have d2:decide (g=ByteArray.mk #[])=false:=Ud e2
  have hR2:=hR2 (λh=>h.elim e1 e2)
  refine Ya (λa V=>V=W/\gQ a 78 (a[9]?=some (.str g)) [(3,.loc 0 0 0),(8,.str c)]) ?_ ?_
  ·simp only[push_cast,hal,h3,h8,h9,d1,d2,Yo,↓WX,simprocAttr]
  rintro a V ⟨rfl,hal,h3,h8,h9⟩
  obtain⟨V1,hV1⟩:∃V1:List Ob,V1=[P0,.map kSt [(.str c,.int .i64 0)],.row 1 [[.map 1]]]:=⟨_,rfl⟩
  refine Ya (λa W=>W=V1/\gQ a 78 (a[10]?=some (.loc 2 0 0)) [(3,.loc 0 0 0),(9,.str g)]) ?_ ?_
  ·rw[hV,hV1]
   simp only[push_cast,hal,h3,h8,h9,ko1,ks,und_mi,putM,Uu,List.set_cons_succ,List.set_cons_zero,Uv,Vr,↓WX,simprocAttr]
  clear hV hV0
  rintro a W ⟨hW,hal,h3,h9,h10⟩
  have w0:W[0]?=some (Ob.row 2 [[.sl 5 (p.aps.map Apt.enc) p.apsx,.sl 3 (p.dts.map Dst.enc) p.dtsx]]):=by rw[hW,hV1,<-hP0];rfl
  have w1:W[1]?=some (.map kSt ([(c,0)].map encM)):=by rw[hW,hV1];rfl
  have w2:W[2]?=some (.row 1 [[.map 1]]):=by rw[hW,hV1];rfl
  clear hW hV1 hP0
  refine Ya (λa V=>V=W/\gQ a 78 (a[11]?=some (.func 215 [] [.loc 2 0 0])) [(3,.loc 0 0 0),(9,.str g),(10,.loc 2 0 0)]) ?_ ?_
  ·simp only[push_cast,hal,h3,h9,h10,↓WX,simprocAttr]
  rintro a V ⟨rfl,hal,h3,h9,h10,h11⟩
  have one:∀q∈[(c,(0:Int))],q=(c,0):=λq hq=>List.mem_singleton.1 hq
  have hg0:Gd (nsF c p.dts) [(c,0)]:=⟨by simp,λq hq=>by rw[one q hq];exact Uo,λq hq=>by rw[one q hq];exact Int.le_refl _,λq hq=>by rw[one q hq];exact Int.le_refl _⟩
  have hs0:Snd p.dts c [(c,0)]:=⟨by simp[rchF],λq hq=>by rw[one q hq];exact .nil⟩
  obtain⟨M0,hM0⟩:∃M0,M0=muF (nsF c p.dts) [(c,0)]:=⟨_,rfl⟩
  have hMb:M0<=36900000:=by
   rw[hM0]
   unfold muF
   have:sumV [(c,(0:Int))]=0:=by simp[sumV]
   rw[this]
   omega
  refine Ya (λa T=>(∃l,T[1]?=some (.map kSt (l.map encM))/\T[2]?=some (.row 1 [[.map 1]])/\(∀q∈l,0<=q.2)/\Snd p.dts c l/\∀x∈p.dts,x.ok->ClsD l x)/\gQ a 78 (a[10]?=some (.loc 2 0 0)) [(9,.str g)]) ?_ ?_
  ·simp only[push_cast,↓WX,simprocAttr]
   refine Yk (λi a T=>(∃l b,a[12]?=some (.bool b)/\T[0]?=some (Ob.row 2 [[.sl 5 (p.aps.map Apt.enc) p.apsx,.sl 3 (p.dts.map Dst.enc) p.dtsx]])/\T[1]?=some (.map kSt (l.map encM))/\T[2]?=some (.row 1 [[.map 1]])/\Gd (nsF c p.dts) l/\Snd p.dts c l/\(b=true->i+muF (nsF c p.dts) l<=M0)/\(i+muF (nsF c p.dts) l<=M0+1)/\(b=false->∀x∈p.dts,x.ok->ClsD l x))/\a.length=78/\a[3]?=some (.loc 0 0 0)/\a[9]?=some (.str g)/\a[10]?=some (.loc 2 0 0)/\a[11]?=some (.func 215 [] [.loc 2 0 0])) (M0+1) ?_ (by omega) ?_
   ·simp only[push_cast,hal,h3,h9,h10,h11,simprocAttr]
    exact⟨_,_,rfl,w0,w1,w2,hg0,hs0,λ_=>by rw[<-hM0];omega,by rw[<-hM0];omega,λh=>by cases h⟩
   clear w0 w1 w2
   rintro i a T hi ⟨⟨l,b,h12,t0,t1,t2,hg,hs,hb1,hb2,hb3⟩,hal,h3,h9,h10,h11⟩
   cases b
   ·simp only[push_cast,hal,h9,h10,h12,↓WX,simprocAttr]
    exact⟨l,t1,t2,hg.lo,hs,hb3 rfl⟩
   replace hb1:=hb1 rfl
   have hlt:i<M0+1:=by omega
   refine Ya (λa V=>V=T/\gQ a 78 (a[11]?=some (.func 215 [] [.loc 2 0 0])) [(3,.loc 0 0 0),(9,.str g),(10,.loc 2 0 0)]) ?_ ?_
   ·simp only[push_cast,hal,h3,h9,h10,h11,h12,↓WX,simprocAttr]
   rintro a V ⟨rfl,hal,h3,h9,h10,h11⟩
   rw[Yx]
   refine Ya (λa W=>W=V/\gQ a 78 (a[12]?=some (.bool false)) [(3,.loc 0 0 0),(9,.str g),(10,.loc 2 0 0),(11,.func 215 [] [.loc 2 0 0])]) ?_ ?_
   ·simp only[push_cast,hal,h3,h9,h10,h11,↓WX,simprocAttr]
   rintro a W ⟨rfl,hal,h3,h9,h10,h11,h12⟩
   simp only[push_cast,hal,h3,t0,↓WX,simprocAttr]
   refine Yk (λj a T=>(∃l' b',a[12]?=some (.bool b')/\T[0]?=some (Ob.row 2 [[.sl 5 (p.aps.map Apt.enc) p.apsx,.sl 3 (p.dts.map Dst.enc) p.dtsx]])/\T[1]?=some (.map kSt (l'.map encM))/\T[2]?=some (.row 1 [[.map 1]])/\Gd (nsF c p.dts) l'/\Snd p.dts c l'/\(b'=true->muF (nsF c p.dts) l'+1<=muF (nsF c p.dts) l)/\muF (nsF c p.dts) l'<=muF (nsF c p.dts) l/\(b'=false->l'=l/\∀x∈p.dts.take j,x.ok->ClsD l x))/\a.length=78/\a[3]?=some (.loc 0 0 0)/\a[9]?=some (.str g)/\a[10]?=some (.loc 2 0 0)/\a[11]?=some (.func 215 [] [.loc 2 0 0])/\a[37]?=some (.sl 3 (p.dts.map Dst.enc) p.dtsx)/\a[38]?=some (.int .i64 p.dts.length)/\a[39]?=some (.int .i64 j)) p.dts.length ?_ (by omega) ?_
   ·simp only[push_cast,hal,h3,h9,h10,h11,h12,t0,simprocAttr,WY]
    exact⟨_,_,rfl,t1,t2,hg,hs,λh=>(by cases h),Uk _,λ_=>⟨rfl,λx hx=>by cases hx⟩⟩
   clear t0 t1 t2 hb3
   rintro j a T hj ⟨⟨l',b',h12,t0,t1,t2,hg',hs',hm1,hm2,hm3⟩,hal,h3,h9,h10,h11,h37,h38,h39⟩
   rcases Kw hj with hjlt |rfl
   case inr=>
    simp only[push_cast,hal,h3,h9,h10,h11,h12,h38,h39,hlt,↓WX,simprocAttr,WY]
    refine⟨_,_,rfl,t0,t1,t2,hg',hs',λh=>by have:=hm1 h;omega,by omega,λh=>?_⟩
    obtain⟨e,f⟩:=hm3 h
    rw[Vi]at f
    rw[e]
    exact f
   have hjc:(j:Int)<p.dts.length:=by omega
   obtain⟨x,hx⟩:∃x,p.dts[j]?=some x:=⟨p.dts[j],by simp⟩
   have hxm:=Kx hx
   have htk:p.dts.take (j+1)=p.dts.take j++[x]:=by rw[List.take_add_one,hx];rfl
   refine Ya (λa V=>V=T/\gQ a 78 (a[40]?=some (.bool true)) [(3,.loc 0 0 0),(9,.str g),(10,.loc 2 0 0),(11,.func 215 [] [.loc 2 0 0]),(12,.bool b'),(37,.sl 3 (p.dts.map Dst.enc) p.dtsx),(38,.int .i64 p.dts.length),(39,.int .i64 j)]) ?_ ?_
   ·simp only[push_cast,hal,h3,h9,h10,h11,h12,h37,h38,h39,hjc,↓WX,simprocAttr]
   rintro a V ⟨rfl,hal,h3,h9,h10,h11,h12,h37,h38,h39,h40⟩
   refine Ya (λa W=>W=V/\gQ a 78 (a[39]?=some (.int .i64 j)) [(3,.loc 0 0 0),(9,.str g),(10,.loc 2 0 0),(11,.func 215 [] [.loc 2 0 0]),(12,.bool b'),(37,.sl 3 (p.dts.map Dst.enc) p.dtsx),(38,.int .i64 p.dts.length)]) ?_ ?_
   ·simp only[push_cast,hal,h3,h9,h10,h11,h12,h37,h38,h39,h40,↓WX]
   rintro a W ⟨rfl,hal,h3,h9,h10,h11,h12,h37,h38,h39⟩
   have u0:(W++[Ob.row 3 [x.enc]])[0]?=some (Ob.row 2 [[.sl 5 (p.aps.map Apt.enc) p.apsx,.sl 3 (p.dts.map Dst.enc) p.dtsx]]):=Ym t0
   have u1:(W++[Ob.row 3 [x.enc]])[1]?=some (.map kSt (l'.map encM)):=Ym t1
   have u2:(W++[Ob.row 3 [x.enc]])[2]?=some (.row 1 [[.map 1]]):=Ym t2
   have ux:(W++[Ob.row 3 [x.enc]])[W.length]?=some (.row 3 [x.enc]):=Yl
   have hWl:W.length≠1:=λe=>by have:=(Kr.1 t2).1;omega
   rw[Zx,Yx]
   refine Ya (λa V=>V=W++[Ob.row 3 [x.enc]]/\gQ a 78 (a[39]?=some (.int .i64 j)) [(3,.loc 0 0 0),(9,.str g),(10,.loc 2 0 0),(11,.func 215 [] [.loc 2 0 0]),(12,.bool b'),(14,.loc W.length 0 0),(37,.sl 3 (p.dts.map Dst.enc) p.dtsx),(38,.int .i64 p.dts.length)]) ?_ ?_
   ·simp only[push_cast,hal,h3,h9,h10,h11,h12,h37,h38,h39,hx,Yq,Yl,Dst.enc,↓WX,simprocAttr]
   rintro a V ⟨rfl,hal,h3,h9,h10,h11,h12,h14,h37,h38,h39⟩
   clear t0 t1 t2
   generalize W++[Ob.row 3 [x.enc]]=V at*
   generalize W.length=z at*
   have ku:=λst S=>Pusb_c (n:=m+1) (by omega) x st S
   simp only[Dst.enc]at ku ux
   by_cases ox:x.ok
   case neg=>
    have uf:(decide (1<=x.mi) && decide (x.mi<=20000))=false:=by
     rw[Bool.eq_false_iff]
     intro h
     rw[Kv,Up,Up]at h
     exact ox h
    rw[uf]at ku
    simp(disch:=omega)only[push_cast,hal,h3,h9,h10,h11,h12,h14,h37,h38,h39,ux,ku,hjlt,Yf,↓WX,simprocAttr,WY]
    refine⟨_,_,rfl,u0,u1,u2,hg',hs',hm1,hm2,λh=>⟨(hm3 h).1,λy hy ky=>?_⟩⟩
    rw[htk]at hy
    rcases List.mem_append.1 hy with hy |hy
    ·exact (hm3 h).2 y hy ky
    ·rw[List.mem_singleton.1 hy]at ky
     exact (ox ky).elim
   have uf:(decide (1<=x.mi) && decide (x.mi<=20000))=true:=by
    rw[Kv,Up,Up]
    exact ox
   rw[uf]at ku
   obtain⟨o1,o2⟩:=ox
   have ox:x.ok:=⟨o1,o2⟩
   obtain⟨z1,z2⟩:=hdz x hxm
   have bnd:∀l,Gd (nsF c p.dts) l->∀q∈l,0<=q.2/\q.2<=1000000:=λl hl q hq=>by
    have a:=hl.lo q hq
    have b:=hl.hi q hq
    have d:=hl.len
    exact⟨a,by omega⟩
   have cr1:=Prelax_c (n:=m) u2 u1 (bnd l' hg') x.fr x.to z1 z2 x.mi (by omega) o2
   obtain⟨g1,m1,m1'⟩:=rlxF_good (x:=x.fr) (y:=x.to) (v:=x.mi) hg' hns (nsF_to hxm) (by omega) o2
   have s1:=(hs'.rlx hg'.lo hxm ox).1
   have f1:=rlxF_false (x:=x.fr) (y:=x.to) (v:=x.mi) hg'.lo
   generalize rlxF x.fr x.to x.mi l'=q1 at*
   obtain⟨l1,b1⟩:=q1
   dsimp only at cr1 g1 m1 m1' s1 f1
   obtain⟨V1,hV1⟩:∃V1,V1=V.set 1 (.map kSt (l1.map encM)):=⟨_,rfl⟩
   rw[<-hV1]at cr1
   have v0:V1[0]?=some (Ob.row 2 [[.sl 5 (p.aps.map Apt.enc) p.apsx,.sl 3 (p.dts.map Dst.enc) p.dtsx]]):=by rw[hV1,Kt (by omega)];exact u0
   have v1:V1[1]?=some (.map kSt (l1.map encM)):=by rw[hV1];exact Uf (Kr.1 u1).1
   have v2:V1[2]?=some (.row 1 [[.map 1]]):=by rw[hV1,Kt (by omega)];exact u2
   have vx:V1[z]?=some (.row 3 [[.str x.fr,.str x.to,.int .i64 x.mi]]):=by rw[hV1,Kt (λe=>hWl e.symm)];exact ux
   clear hV1
   have cr2:=Prelax_c (n:=m) v2 v1 (bnd l1 g1) x.to x.fr z2 z1 x.mi (by omega) o2
   obtain⟨g2,m2,m2'⟩:=rlxF_good (x:=x.to) (y:=x.fr) (v:=x.mi) g1 hns (nsF_fr hxm) (by omega) o2
   have s2:=(s1.rlx g1.lo hxm ox).2
   have f2:=rlxF_false (x:=x.to) (y:=x.fr) (v:=x.mi) g1.lo
   generalize rlxF x.to x.fr x.mi l1=q2 at*
   obtain⟨l2,b2⟩:=q2
   dsimp only at cr2 g2 m2 m2' s2 f2
   obtain⟨V2,hV2⟩:∃V2,V2=V1.set 1 (.map kSt (l2.map encM)):=⟨_,rfl⟩
   rw[<-hV2]at cr2
   have y0:V2[0]?=some (Ob.row 2 [[.sl 5 (p.aps.map Apt.enc) p.apsx,.sl 3 (p.dts.map Dst.enc) p.dtsx]]):=by rw[hV2,Kt (by omega)];exact v0
   have y1:V2[1]?=some (.map kSt (l2.map encM)):=by rw[hV2];exact Uf (Kr.1 v1).1
   have y2:V2[2]?=some (.row 1 [[.map 1]]):=by rw[hV2,Kt (by omega)];exact v2
   clear hV2
   cases b'
   ·cases b1
    ·simp(disch:=omega)only[push_cast,hal,h3,h9,h10,h11,h12,h14,h37,h38,h39,↓Kk,Jn,ux,vx,ku,cr1,cr2,hjlt,Vr,Uv,Yf,↓WX,simprocAttr,WY]
     refine⟨_,_,rfl,y0,y1,y2,g2,s2,λh=>by have:=m2' h;omega,by omega,λh=>?_⟩
     obtain⟨e1,k1⟩:=f1 rfl
     obtain⟨e2,k2⟩:=f2 h
     obtain⟨e3,k3⟩:=hm3 rfl
     subst e1 e2 e3
     refine⟨rfl,λy hy ky=>?_⟩
     rw[htk]at hy
     rcases List.mem_append.1 hy with hy |hy
     ·exact k3 y hy ky
     ·rw[List.mem_singleton.1 hy]
      exact⟨k1,k2⟩
    ·simp(disch:=omega)only[push_cast,hal,h3,h9,h10,h11,h12,h14,h37,h38,h39,↓Kk,Jn,ux,vx,ku,cr1,cr2,hjlt,Vr,Uv,Yf,↓WX,simprocAttr,WY]
     exact⟨_,_,rfl,y0,y1,y2,g2,s2,λ_=>by have:=m1' rfl;omega,by omega,λh=>by cases h⟩
   ·simp(disch:=omega)only[push_cast,hal,h3,h9,h10,h11,h12,h14,h37,h38,h39,↓Kk,Jn,ux,vx,ku,cr1,cr2,hjlt,Vr,Uv,Yf,↓WX,simprocAttr,WY]
    exact⟨_,_,rfl,y0,y1,y2,g2,s2,λ_=>by have:=hm1 rfl;omega,by omega,λh=>by cases h⟩
  clear w0 w1 w2 hg0
  rintro a T ⟨⟨l,t1,t2,hl,hs,hcl⟩,hal,h9,h10⟩
  have hd:=hs.done hl hcl g
  have lk:=look_M g l hl
  by_cases q:rchF g l<0
  ·rw[if_pos q]at lk
   rw[if_pos q,if_pos q]at hd
   simp only[push_cast,hal,h9,h10,t1,t2,ko2,ks,zi,und_mi,lk,Tryz.f179,↓WX,simprocAttr,WY]
   exact⟨_,_,hR2 _ _ hd,rfl⟩
  ·rw[if_neg q]at lk
   rw[if_neg q,if_neg q]at hd
   simp only[push_cast,hal,h9,h10,t1,t2,ko2,ks,zi,und_mi,lk,Tryz.f179,↓WX,simprocAttr,WY]
   exact⟨_,_,hR2 _ _ hd,rfl⟩
 obtain⟨_,T,ho,q,e,hq,rfl⟩:=this
 exact⟨q,e,(hR q e).1 hq,λst S=>Yd rfl (by simp only[Yc,Yg,D.pure,Ua]at hp ⊢;exact hp) ho rfl⟩
end
theorem at_app {α:Type} {S J:List α} {R:α}:(S++R::J)[S.length]?=some R:=by simp
def LR {α:Type} (sz:Nat) (enc:α->List D) (S:List Ob) (d:D) (l:List α):Prop:=(d=.nils/\l=[])∨(∃x,d=.sl sz (l.map enc) x/\∀J:List Ob,(J++S)[(J++S).length]?=none)∨∃k es,d=.os k 0 l.length false/\∀J,(S++J)[k]?=some (.row sz (l.map enc++es))
section
variable {α : Type} {sz : Nat} {enc : α -> List D} {S T : List Ob} {d : D} {l : List α}
theorem apl {i:Nat} {x:α} (h:l[i]?=some x) (es:List (List D)):(l.map enc++es)[i]?=some (enc x):=by
 have:=(Kr.1 h).1
 rw[Ut (by rw[Uq];exact this),Vd,h]
 rfl
theorem FLs.lr (h:FLs sz enc d l):LR sz enc S d l:=h.elim .inl λ⟨x,h⟩=>.inr (.inl ⟨x,h,λ_=>List.getElem?_eq_none (Uk _)⟩)
theorem GL.lr (h:GL sz enc S d l):LR sz enc S d l:=h.elim .inl λ⟨k,h,g⟩=>.inr (.inr ⟨k,[],h,λ_=>by rw[Ur];exact Ym g⟩)
theorem LR.ext (h:LR sz enc S d l) (g:ExtS S T):LR sz enc T d l:=by
 rcases h with h | ⟨x,h,-⟩ | ⟨k,es,h,hk⟩
 ·exact .inl h
 ·exact FLs.lr (.inr ⟨x,h⟩)
 ·exact .inr (.inr ⟨k,es,h,λJ=>Ym (g _ _ (by have:=hk [];rwa [Ur]at this))⟩)
theorem lr_len {t e:TypeId} (ht:Tryz.prog.underlying t=some (.slice e)) (h:LR sz enc S d l) (T:List Ob):dLen Tryz.prog T t d=some (.int .i64 l.length):=by
 unfold dLen
 rw[ht]
 rcases h with ⟨rfl,rfl⟩ | ⟨x,rfl,-⟩ | ⟨k,es,rfl,-⟩
 ·rfl
 ·dsimp only
  rw[Uq]
 ·rfl
theorem LR.one (h:LR sz enc S d l):d.one=true:=by
 rcases h with ⟨rfl,-⟩ | ⟨x,rfl,-⟩ | ⟨k,es,rfl,-⟩ <;> rfl
theorem LR.pure0 (h:LR sz enc S d l) (hp:d.pure=true):FLs sz enc d l:=by
 rcases h with h | ⟨x,h,-⟩ | ⟨k,es,rfl,-⟩
 ·exact .inl h
 ·exact .inr ⟨x,h⟩
 ·cases hp
theorem obs_r {n:Nat} {f:FuncId} {A:D->List D} {v:D} (hm:E.mode f=.obs) (hp:Zc (l.map enc)=true) (hv:v.pure=true) (hA:∀d,d.pure=true->Yp (A d)=true) (hB:∀k n,Yp (A (.os k 0 n false))=false) (h:∀S,LR sz enc S d l->WO (Yb E n f (A d) S) λr T=>r=v/\∃J,T=S++J) (hl:LR sz enc S d l):∀st,Yi E (Yb E n) st S f (A d)=some (v,S):=by
 intro st
 rcases hl with h0 | ⟨x,h0,h1⟩ | ⟨k,es,h0,h1⟩
 ·obtain⟨_,_,ho,rfl,J,rfl⟩:=h [] (.inl h0)
  exact callD_obsP hm (hA _ (by rw[h0.1];rfl)) ho (Yy hv)
 ·obtain⟨_,_,ho,rfl,J,rfl⟩:=h [] (FLs.lr (.inr ⟨x,h0⟩))
  exact callD_obsP hm (hA _ (by rw[h0];simp only[D.pure,hp])) ho (Yy hv)
 ·obtain⟨_,_,ho,rfl,J,rfl⟩:=h S (.inr (.inr ⟨k,es,h0,h1⟩))
  exact callD_obsJ hm (by rw[h0];exact hB _ _) ho hv
end
section
variable {n : Nat}
theorem Ppriced_d {S:List Ob} (t:Trf) {d:D} {l:List Prt} (h:LR 4 Prt.enc S d l) (hl:l.length<=1000) (hn:2000<=n):WO (Yb E (n+1) 128 [.agg t.enc,d] S) λr T=>r=.bool (l.all (knoF t))/\∃J,T=S++J:=by
 have hy:=lr_len Tryz.underlying37 h
 simp only[push_cast]at hy
 obtain⟨q,hq⟩:∃q,q=l.all (knoF t):=⟨_,rfl⟩
 rw[<-hq]
 obtain⟨R0,hR0⟩:∃R0,R0=Ob.row 4 [t.enc]:=⟨_,rfl⟩
 simp only[Trf.enc]at hR0 ⊢
 refine Ye Tryz.func128 rfl (by decide) rfl 25 rfl (λa hal ha=>?_)
 obtain⟨h0,h1⟩:=aQ2 ha
 clear ha
 refine Ya (λa V=>(∃J,V=S++R0::J)/\gQ a 25 (a[2]?=some (.loc S.length 0 0)) [(1,d)]) ?_ ?_
 ·simp only[push_cast,hal,h0,h1,hR0,↓WX,simprocAttr]
  exact⟨[],rfl⟩
 rintro a V ⟨hV,hal,h1,h2⟩
 refine Za (λa T=>(q=true/\∃J,T=S++J)/\a.length=25) ?_ ?_
 ·simp only[push_cast,hal,h1,hy,↓WX,simprocAttr]
  refine Yk (λi a T=>((∃J,T=S++R0::J)/\q=(l.drop i).all (knoF t))/\a.length=25/\a[2]?=some (.loc S.length 0 0)/\a[7]?=some (d)/\a[8]?=some (.int .i64 l.length)/\a[9]?=some (.int .i64 i)) l.length ?_ (by omega) ?_
  ·simp only[push_cast,hal,h2,simprocAttr,WY]
   exact⟨hV,hq⟩
  clear hq hV
  rintro i a T hi ⟨⟨⟨J,rfl⟩,e⟩,hal,h2,h7,h8,h9⟩
  rcases Kw hi with hlt |rfl
  case inr=>
   rw[Vj,List.all_nil]at e
   simp only[push_cast,hal,h8,h9,↓WX,simprocAttr,WY]
   exact⟨e,_,rfl⟩
  have hltc:(i:Int)<l.length:=by omega
  obtain⟨x,hx⟩:∃x,l[i]?=some x:=⟨l[i],by simp⟩
  rw[Yu hx,List.all_cons]at e
  unfold knoF at e
  refine Ya (λa V=>V=S++R0::J/\gQ a 25 (a[10]?=some (.bool true)) [(2,.loc S.length 0 0),(7,d),(8,.int .i64 l.length),(9,.int .i64 i)]) ?_ ?_
  ·simp only[push_cast,hal,h2,h7,h8,h9,hltc,↓WX,simprocAttr]
  rintro a V ⟨rfl,hal,h2,h7,h8,h9,h10⟩
  refine Ya (λa V=>V=S++R0::J/\gQ a 25 (a[9]?=some (.int .i64 i)) [(2,.loc S.length 0 0),(7,d),(8,.int .i64 l.length)]) ?_ ?_
  ·simp only[push_cast,hal,h2,h7,h8,h9,h10,↓WX]
  rintro a V ⟨rfl,hal,h2,h7,h8,h9⟩
  rw[Zx,Yx]
  refine Ya (λa W=>(∃kx,a[6]?=some (.loc kx 0 0)/\W[kx]?=some (.row 4 [[.int .i64 x.fr,.int .i64 x.to,.int .i64 x.fa,.int .i64 x.am]])/\∃J,W=S++R0::J)/\gQ a 25 (a[9]?=some (.int .i64 i)) [(2,.loc S.length 0 0),(7,d),(8,.int .i64 l.length)]) ?_ ?_
  ·have hap:=apl (enc:=Prt.enc) hx
   rcases h with ⟨-,rfl⟩ | ⟨lx,rfl,hk⟩ | ⟨kk,es,rfl,hk⟩
   ·cases hx
   case' inr.inr=>have hk:=hk (R0::J)
   all_goals
    simp only[push_cast,hal,h2,h7,h8,h9,hap,hk,hlt,hx,Yq,Yl,Prt.enc,↓WX,simprocAttr]
    exact⟨_,rfl,Yl,_,Vg ..⟩
  rintro a W ⟨⟨kx,h6,gx,J',rfl⟩,hal,h2,h7,h8,h9⟩
  have gR:(S++R0::J')[S.length]?=some (Ob.row 4 [[.sl 9 (t.fares.map Far.enc) t.fx,.sl 15 (t.rules.map Rul.enc) t.rx,.sl 3 (t.rous.map Rou.enc) t.ox,.sl 7 (t.taxes.map Tx.enc) t.tx]]):=at_app.trans (congrArg some hR0)
  have hXR:∃J,S++R0::J'=S++R0::J:=⟨_,rfl⟩
  have hXJ:∃J,S++R0::J'=S++J:=⟨_,rfl⟩
  generalize S++R0::J'=W at*
  by_cases c1:x.fa<0
  ·simp only[Ue c1,Bool.true_or,WY]at e
   subst e
   simp only[push_cast,hal,h6,gx,c1,Tryz.f128,↓WX,simprocAttr,WY]
   exact hXJ
  by_cases c2:x.fa>=t.fares.length
  ·simp only[Ue c2,Bool.or_true,WY]at e
   subst e
   have c2':((t.fares.length:Int)<=x.fa)=True:=eq_true c2
   simp only[push_cast,hal,h2,h6,gx,gR,c1,c2',Tryz.f128,↓WX,simprocAttr,WY]
   exact hXJ
  ·simp only[Ud c1,Ud c2,Bool.or_false,WY]at e
   have c2':((t.fares.length:Int)<=x.fa)=False:=eq_false c2
   simp(disch:=omega)only[push_cast,hal,h2,h6,h7,h8,h9,gx,gR,hlt,c1,c2',Yf,↓WX,simprocAttr,WY]
   exact⟨hXR,e⟩
 rintro a T ⟨⟨rfl,hJ⟩,hal⟩
 simp only[push_cast,hal,Tryz.f128,↓WX,simprocAttr]
 exact hJ
theorem Ppriced_x {S:List Ob} (t:Trf) {d:D} {l:List Prt} (h:LR 4 Prt.enc S d l) (hl:l.length<=1000) (hn:2001<=n):∀st,Yi E (Yb E n) st S 128 [.agg t.enc,d]=some (.bool (l.all (knoF t)),S):=by
 obtain⟨m,rfl⟩:∃m,n=m+1:=⟨n-1,by omega⟩
 exact obs_r (A:=λd=>[.agg t.enc,d]) rfl (Jr l) rfl (λd hd=>by simp only[Yc,Yg,D.pure,Ja,hd,Ua]) (λk n=>by simp only[Yc,Yg,D.pure,Bool.and_false,WY]) (λS h=>Ppriced_d t h hl (by omega)) h
def whoF (l:List Prt) (k:Int):Bool:=match whF l 0 with |some z=>decide ((l.length:Int)>0) && decide (z=k) |none=>false
theorem Pcovers_d {S:List Ob} {d:D} {l:List Prt} (h:LR 4 Prt.enc S d l) (hl:l.length<=1000) (k:Int) (hn:2000<=n):WO (Yb E (n+1) 70 [d,.int .i64 k] S) λr T=>r=.bool (whoF l k)/\∃J,T=S++J:=by
 have hy:=lr_len Tryz.underlying37 h
 simp only[push_cast]at hy
 obtain⟨q,hq⟩:∃q,q=whF l 0:=⟨_,rfl⟩
 unfold whoF
 rw[<-hq]
 refine Ye Tryz.func70 rfl (by decide) rfl 36 rfl (λa hal ha=>?_)
 obtain⟨h0,h1⟩:=aQ2 ha
 clear ha
 refine Ya (λa V=>V=S/\gQ a 36 (a[1]?=some (.int .i64 k)) [(0,d)]) ?_ ?_
 ·simp only[push_cast,hal,h0,h1,↓WX,simprocAttr]
 rintro a V ⟨rfl,hal,h0,h1⟩
 refine Ya (λa W=>W=V/\gQ a 36 (a[5]?=some (.int .i64 0)) [(0,d),(1,.int .i64 k)]) ?_ ?_
 ·simp only[push_cast,hal,h0,h1,↓WX,simprocAttr]
 rintro a W ⟨rfl,hal,h0,h1,h5⟩
 refine Za (λa T=>(∃z:Int,q=some z/\a[5]?=some (.int .i64 z)/\∃J,T=W++J)/\gQ a 36 (a[1]?=some (.int .i64 k)) [(0,d)]) ?_ ?_
 ·simp only[push_cast,Vn,hal,h0,hy,↓WX,simprocAttr]
  refine Yk (λi a T=>((∃J,T=W++J)/\∃z:Int,a[5]?=some (.int .i64 z)/\q=whF (l.drop i) z)/\a.length=36/\a[0]?=some (d)/\a[1]?=some (.int .i64 k)/\a[8]?=some (d)/\a[9]?=some (.int .i64 l.length)/\a[10]?=some (.int .i64 i)) l.length ?_ (by omega) ?_
  ·simp only[push_cast,hal,h0,h1,h5,simprocAttr,WY]
   exact⟨⟨[],(Ur _).symm⟩,0,rfl,hq⟩
  clear hq
  rintro i a T hi ⟨⟨⟨J,rfl⟩,z,h5,e⟩,hal,h0,h1,h8,h9,h10⟩
  rcases Kw hi with hlt |rfl
  case inr=>
   rw[Vj,whF]at e
   simp only[push_cast,hal,h0,h1,h5,h9,h10,↓WX,simprocAttr,WY]
   exact⟨z,e,rfl,_,rfl⟩
  have hltc:(i:Int)<l.length:=by omega
  obtain⟨x,hx⟩:∃x,l[i]?=some x:=⟨l[i],by simp⟩
  rw[Yu hx,whF]at e
  refine Ya (λa V=>V=W++J/\gQ a 36 (a[11]?=some (.bool true)) [(0,d),(1,.int .i64 k),(5,.int .i64 z),(8,d),(9,.int .i64 l.length),(10,.int .i64 i)]) ?_ ?_
  ·simp only[push_cast,hal,h0,h1,h5,h8,h9,h10,hltc,↓WX,simprocAttr]
  rintro a V ⟨rfl,hal,h0,h1,h5,h8,h9,h10,h11⟩
  refine Ya (λa V=>V=W++J/\gQ a 36 (a[10]?=some (.int .i64 i)) [(0,d),(1,.int .i64 k),(5,.int .i64 z),(8,d),(9,.int .i64 l.length)]) ?_ ?_
  ·simp only[push_cast,hal,h0,h1,h5,h8,h9,h10,h11,↓WX]
  rintro a V ⟨rfl,hal,h0,h1,h5,h8,h9,h10⟩
  rw[Zx,Yx]
  refine Ya (λa V=>(∃kx,a[7]?=some (.loc kx 0 0)/\V[kx]?=some (.row 4 [[.int .i64 x.fr,.int .i64 x.to,.int .i64 x.fa,.int .i64 x.am]])/\∃J,V=W++J)/\gQ a 36 (a[10]?=some (.int .i64 i)) [(0,d),(1,.int .i64 k),(5,.int .i64 z),(8,d),(9,.int .i64 l.length)]) ?_ ?_
  ·have hap:=apl (enc:=Prt.enc) hx
   rcases h with ⟨-,rfl⟩ | ⟨lx,rfl,hk⟩ | ⟨kk,es,rfl,hk⟩
   ·cases hx
   case' inr.inr=>have hk:=hk J
   all_goals
    simp only[push_cast,hal,h0,h1,h5,h8,h9,h10,hap,hk,hlt,hx,Yq,Yl,Prt.enc,↓WX,simprocAttr]
    exact⟨_,rfl,Yl,_,Vg ..⟩
  rintro a V ⟨⟨kx,h7,gx,J',rfl⟩,hal,h0,h1,h5,h8,h9,h10⟩
  have hXJ:∃J,W++J'=W++J:=⟨_,rfl⟩
  generalize W++J'=V at*
  by_cases c1:x.fr=z
  case neg=>
   simp only[Ud c1,Bool.true_or,if_true,WY]at e
   subst e
   simp only[push_cast,Vo,hal,h0,h1,h5,h7,gx,c1,Tryz.f70,↓WX,simprocAttr,WY]
   exact hXJ
  by_cases c2:x.to<=z
  ·simp only[Ue c1,Ue c2,Bool.false_or,if_true,WY]at e
   subst e
   have c3:x.to<=x.fr:=by omega
   simp only[push_cast,Vp,hal,h0,h1,h5,h7,gx,c1,c2,Tryz.f70,↓WX,simprocAttr,WY]
   exact hXJ
  ·simp only[Ue c1,Ud c2,Bool.or_false,Ui,if_false,WY]at e
   have c3:¬x.to<=x.fr:=by omega
   simp(disch:=omega)only[push_cast,Vp,hal,h0,h1,h5,h7,h8,h9,h10,gx,hlt,c1,c2,Yf,↓WX,simprocAttr,WY]
   exact⟨hXJ,_,rfl,e⟩
 rintro a T ⟨⟨z,rfl,h5,hJ⟩,hal,h0,h1⟩
 have hyT:=hy T
 by_cases c1:(0:Int)<l.length
 ·simp only[push_cast,Vn,hal,h0,h1,h5,hyT,c1,Tryz.f70,↓WX,simprocAttr,WY]
  exact hJ
 ·simp only[push_cast,Vn,hal,h0,hyT,c1,Tryz.f70,↓WX,simprocAttr,WY]
  exact hJ
theorem Pcovers_x {S:List Ob} {d:D} {l:List Prt} (h:LR 4 Prt.enc S d l) (hl:l.length<=1000) (k:Int) (hn:2001<=n):∀st,Yi E (Yb E n) st S 70 [d,.int .i64 k]=some (.bool (whoF l k),S):=by
 obtain⟨m,rfl⟩:∃m,n=m+1:=⟨n-1,by omega⟩
 exact obs_r (A:=λd=>[d,.int .i64 k]) rfl (Jr l) rfl (λd hd=>by simp only[Yc,Yg,D.pure,hd,Ua]) (λk n=>by simp only[Yc,Yg,D.pure,WY]) (λS h=>Pcovers_d h hl k (by omega)) h
def bckF (a b:Far):Bool:=b.rnd && (decide (a.car=b.car) && (decide (a.frm=b.dst) && decide (a.dst=b.frm)))
theorem Pback_x (u v:Far) (hn:1<=n):∀st S,Yi E (Yb E n) st S 129 [.agg u.enc,.agg v.enc]=some (.bool (bckF u v),S):=by
 obtain⟨m,rfl⟩:∃m,n=m+1:=⟨n-1,by omega⟩
 have:WO (Yb E (m+1) 129 [.agg u.enc,.agg v.enc] []) λr T=>r=.bool (bckF u v):=by
  simp only[Far.enc]
  unfold bckF
  refine Ye Tryz.func129 rfl (by decide) rfl 28 rfl (λa hal ha=>?_)
  obtain⟨h0,h1⟩:=aQ2 ha
  clear ha
  cases e0:v.rnd
  ·simp only[push_cast,hal,h0,h1,e0,Tryz.f129,↓WX,simprocAttr,WY]
  cases e1:decide (u.car=v.car)
  ·simp only[push_cast,hal,h0,h1,e0,e1,Yo,Tryz.f129,↓WX,simprocAttr,WY]
  cases e2:decide (u.frm=v.dst)
  ·simp only[push_cast,hal,h0,h1,e0,e1,e2,Yo,Tryz.f129,↓WX,simprocAttr,WY]
  ·simp only[push_cast,hal,h0,h1,e0,e1,e2,Yo,Tryz.f129,↓WX,simprocAttr,WY]
 obtain⟨_,T,ho,rfl⟩:=this
 exact λst S=>Yd rfl (by simp only[Yc,Yg,D.pure,Far_pure,Ua]) ho rfl
theorem PruleOf_x (t:Trf) (x:Prt) (hx:knoF t x=true) (hr:t.rules.length<=1048576) (hn:1048590<=n):∀st S,Yi E (Yb E n) st S 131 [.agg t.enc,.agg x.enc]=some (rulD (rulF t x),S):=by
 obtain⟨m,rfl⟩:∃m,n=m+1:=⟨n-1,by omega⟩
 have hp:Yp [.agg t.enc,.agg x.enc]=true:=by simp only[Yc,Yg,D.pure,Ja,Prt_pure,Ua]
 obtain⟨fx1,fx2,fx3⟩:=knoF_far hx
 have fx1':(0<=x.fa)=True:=eq_true fx1
 have hru:=PRule_x (n:=m) (t.fares.map Far.enc) (t.rous.map Rou.enc) (t.taxes.map Tx.enc) t.fx t.ox t.tx t.rules t.rx (Js _) (Jz _) (Jq _) hr (by omega) (farF t x).rul
 unfold rulF
 generalize farF t x=f at*
 generalize t.rules.find? (λr=>decide (r.num=f.rul))=o at*
 generalize o.isSome=b at hru
 have hpo:=Jl o
 obtain⟨y1,y2,y3,y4,y5,y6,y7,y8,y9,y10,y11,y12,y13,y14,hy,⟨r1,r2,r3,r4,r5,r6,r7⟩,r8,r9,r10,r11,r12,r13,r14⟩:=Jy o
 rw[hy]at hru hpo ⊢
 simp only[D.one]at r1 r2 r3 r4 r5 r6 r7 r8 r9 r10 r11 r12 r13 r14
 simp only[Trf.enc,Prt.enc]at hp hru ⊢
 have:WO (Yb E (m+1) 131 [.agg [.sl 9 (t.fares.map Far.enc) t.fx,.sl 15 (t.rules.map Rul.enc) t.rx,.sl 3 (t.rous.map Rou.enc) t.ox,.sl 7 (t.taxes.map Tx.enc) t.tx],.agg [.int .i64 x.fr,.int .i64 x.to,.int .i64 x.fa,.int .i64 x.am]] []) λr T=>r=.agg [.int .i64 (numF o),y1,y2,y3,y4,y5,y6,y7,y8,y9,y10,y11,y12,y13,y14]:=by
  refine Ye Tryz.func131 rfl (by decide) rfl 20 rfl (λa hal ha=>?_)
  obtain⟨h0,h1⟩:=aQ2 ha
  clear ha
  simp only[push_cast,hal,h0,h1,fx1',fx3,hru,Far.enc,r1,r2,r3,r4,r5,r6,r7,r8,r9,r10,r11,r12,r13,r14,Tryz.f131,↓WX,simprocAttr]
 obtain⟨_,T,ho,rfl⟩:=this
 exact λst S=>Yd rfl hp ho (Yy hpo)
end
end Go.Proofs.YtaklebjoenophaaGreat.Dm
