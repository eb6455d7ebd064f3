/-
  The miles between two cities: the program, exactly.
-/
import Derived.Test.YtaklebjoenophaaGreatPqF
import Derived.Test.YtaklebjoenophaaGreatPqH
set_option maxHeartbeats 64000000
set_option maxRecDepth 100000
set_option linter.unusedSimpArgs false
set_option linter.unusedVariables false
namespace Go.Proofs.YtaklebjoenophaaGreat.Dm
open Go Gw
abbrev kSt:TypeId:=9
theorem keyOk_st {s:ByteArray} (h:s.size<=1048576):keyOk Tryz.prog kSt (.str s)=true:=by
 have m1:s.size<=maxLen:=by simp only[maxLen];omega
 unfold keyOk
 simp only[litV,litC]
 unfold keyOf
 rw[Tryz.underlying9]
 dsimp only
 unfold mapKey
 rw[Tryz.underlying9]
 simp[m1]
theorem keys_st:E.keys kSt=true:=by kernel_rfl
theorem und_mi:Tryz.prog.underlying 247=some (.map kSt 3):=Tryz.underlying247
def encM (p:ByteArray×Int):D×D:=(.str p.1,.int .i64 p.2)
theorem look_M (s:ByteArray):∀l:List (ByteArray×Int),(∀p∈l,0<=p.2)->lookM (l.map encM) (.str s)=if rchF s l<0 then none else some (.int .i64 (rchF s l))
 | [],_=>by rw[rchF,if_pos (by omega)];rfl
 |p::ps,h=>by
  have hp:=h p (Yx ..)
  have ih:=look_M s ps λq hq=>h q (Yv _ hq)
  unfold lookM at ih ⊢
  rw[Zh,List.find?_cons]
  have hk:keyBeq (encM p).1 (.str s)=decide (p.1=s):=rfl
  rw[hk]
  unfold rchF
  by_cases c:p.1=s
  ·rw[Yn c,if_pos c,if_neg (by omega)]
   rfl
  ·rw[Ym c,if_neg c]
   exact ih
theorem put_M (s:ByteArray) (v:Int):∀l:List (ByteArray×Int),(rchF s l<0∨v<rchF s l)->(∀p∈l,0<=p.2)->putM (l.map encM) (.str s) (.int .i64 v)=(reF s v l).1.map encM/\(reF s v l).2=true
 | [],_,_=>⟨rfl,rfl⟩
 |p::ps,h,g=>by
  have hp:=g p (Yx ..)
  rw[Zh]
  have hk:keyBeq (encM p).1 (.str s)=decide (p.1=s):=rfl
  unfold encM at hk ⊢
  dsimp only at hk ⊢
  unfold putM reF
  rw[hk]
  unfold rchF at h
  by_cases c:p.1=s
  ·rw[if_pos c]at h
   rw[if_pos (Yn c),if_pos c,if_neg (by omega)]
   exact⟨rfl,rfl⟩
  ·rw[if_neg c]at h
   obtain⟨e1,e2⟩:=put_M s v ps h λq hq=>g q (Yv _ hq)
   rw[if_neg (by simpa using c),if_neg c]
   unfold encM at e1
   dsimp only
   rw[e1,e2]
   exact⟨rfl,rfl⟩
section
variable {n : Nat}
theorem Prelax_c {ck km:Nat} {l:List (ByteArray×Int)} {S:List Ob} (gk:S[ck]?=some (.row 1 [[.map km]])) (gm:S[km]?=some (.map kSt (l.map encM))) (hp:∀p∈l,0<=p.2/\p.2<=1000000) (x y:ByteArray) (hxz:x.size<=1048576) (hyz:y.size<=1048576) (v:Int) (hv:0<=v) (hv2:v<=20000):
  callD E (dcall E (n+1)) false S 215 [.str x,.str y,.int .i64 v,.loc ck 0 0]=some (.bool (rlxF x y v l).2,S.set km (.map kSt ((rlxF x y v l).1.map encM))):=by
 have ko1:=keyOk_st hxz
 have ko2:=keyOk_st hyz
 have ks:=keys_st
 have hp0:∀p∈l,0<=p.2:=λp h=>(hp p h).1
 have lx:=look_M x l hp0
 have ly:=look_M y l hp0
 have hid:S.set km (.map kSt (l.map encM))=S:=by
  apply List.ext_getElem?
  intro i
  by_cases e:km=i
  ·subst e
   rw[Yo (Ya.1 gm).1,gm]
  ·rw[Yc e]
 have zi:zeroT Tryz.prog 3=some (.int .i64 0):=by kernel_rfl
 have:WO (dcall E (n+1) 215 [.str x,.str y,.int .i64 v,.loc ck 0 0] S) λr T=>r=.bool (rlxF x y v l).2/\T=S.set km (.map kSt ((rlxF x y v l).1.map encM)):=by
  refine wo_dcall Tryz.func215 rfl (by decide) rfl 41 rfl (λa hal ha=>?_)
  have h0:a[0]?=some _:=ha 0 (by simp)
  have h1:a[1]?=some _:=ha 1 (by simp)
  have h2:a[2]?=some _:=ha 2 (by simp)
  have h3:a[3]?=some _:=ha 3 (by simp)
  clear ha
  by_cases c1:rchF x l<0
  ·have hr:rlxF x y v l=(l,false):=by unfold rlxF;rw[if_pos c1]
   rw[hr,hid]
   rw[if_pos c1]at lx
   by_cases c2:rchF y l<0
   ·rw[if_pos c2]at ly
    simp only[push_cast,hal,h0,h1,h3,gk,gm,ko1,ko2,ks,lx,ly,zi,und_mi,Tryz.f215,↓WX,simprocAttr,WY]
   ·rw[if_neg c2]at ly
    simp only[push_cast,hal,h0,h1,h3,gk,gm,ko1,ko2,ks,lx,ly,zi,und_mi,Tryz.f215,↓WX,simprocAttr,WY]
  ·rw[if_neg c1]at lx
   have hx:rchF x l<=1000000:=(hp _ (rchF_mem (by omega))).2
   have hw:IntKind.i64.wrap (rchF x l+v)=rchF x l+v:=wrap_ok (by omega) (by omega)
   have hr:rlxF x y v l=reF y (rchF x l+v) l:=by unfold rlxF;rw[if_neg c1]
   rw[hr]
   by_cases c2:rchF y l<0
   ·rw[if_pos c2]at ly
    obtain⟨e1,e2⟩:=put_M y (rchF x l+v) l (.inl c2) hp0
    rw[e2,<-e1]
    simp only[push_cast,hal,h0,h1,h2,h3,gk,gm,ko1,ko2,ks,lx,ly,zi,und_mi,hw,Tryz.f215,↓WX,simprocAttr,WY]
   ·rw[if_neg c2]at ly
    by_cases c3:rchF y l<=rchF x l+v
    ·have hf:=reF_le (s:=y) (v:=rchF x l+v) (l:=l) (by omega) c3
     rw[hf,hid]
     simp only[push_cast,hal,h0,h1,h2,h3,gk,gm,ko1,ko2,ks,lx,ly,zi,und_mi,hw,c3,Tryz.f215,↓WX,simprocAttr,WY]
    ·obtain⟨e1,e2⟩:=put_M y (rchF x l+v) l (.inr (by omega)) hp0
     rw[e2,<-e1]
     simp only[push_cast,hal,h0,h1,h2,h3,gk,gm,ko1,ko2,ks,lx,ly,zi,und_mi,hw,c3,Tryz.f215,↓WX,simprocAttr,WY]
 obtain⟨r,T,hT,rfl,rfl⟩:=this
 exact (callD_own rfl (by simp[pureL,D.pure])).trans hT
theorem Pusb_c (hn:1<=n) (c:Dst):∀st S,callD E (dcall E n) st S 216 [.agg c.enc]=some (.bool (decide (1<=c.mi) && decide (c.mi<=20000)),S):=by
 obtain⟨m,rfl⟩:∃m,n=m+1:=⟨n-1,by omega⟩
 have:WO (dcall E (m+1) 216 [.agg c.enc] []) λd T=>d=.bool (decide (1<=c.mi) && decide (c.mi<=20000)):=by
  simp only[Dst.enc]
  refine wo_dcall Tryz.func216 rfl (by decide) rfl 11 rfl (λa hal ha=>?_)
  have h0:a[0]?=some _:=ha 0 (by simp)
  clear ha
  cases e:decide (1<=c.mi)
  ·simp only[push_cast,hal,h0,e,Xe,Tryz.f216,↓WX,simprocAttr,WY]
  ·simp only[push_cast,hal,h0,e,Xe,Tryz.f216,↓WX,simprocAttr,WY]
 obtain⟨_,T,ho,rfl⟩:=this
 exact λst S=>callD_pure rfl (by simp[pureL_cons,pureL_nil,D.pure,Dst.enc]) ho rfl
theorem cityS_size {p:Plc} (h:∀a∈p.aps,a.city.size<=1048576) (s:ByteArray):(cityS p s).size<=1048576:=by
 unfold cityS
 split
 ·rename_i a ha
  exact h a (List.mem_of_find?_eq_some ha)
 ·split
  ·rename_i a ha
   have h1:=List.find?_some ha
   have h2:=h a (List.mem_of_find?_eq_some ha)
   rw[<-ba_eq h1]
   exact h2
  ·exact Xb _
theorem PMiles_x (p:Plc) (hpa:p.aps.length<=1048576) (hpd:p.dts.length<=20) (hcz:∀a∈p.aps,a.city.size<=1048576) (hdz:∀x∈p.dts,x.fr.size<=1048576/\x.to.size<=1048576) (hn:50000000<=n) (s t:ByteArray):∃q e:Int,MilS p s t q e/\∀st S,callD E (dcall E n) st S 179 [.agg p.enc,.str s,.str t]=some (.tup [.int .i64 q,.int .i64 e],S):=by
 obtain⟨m,rfl⟩:∃m,n=m+1+1:=⟨n-2,by omega⟩
 have hp:=Plc_pure p
 have k1:=λst S=>City_c (n:=m+1) (p:=p) (s:=s) (by omega) (by omega) st S
 have k2:=λst S=>City_c (n:=m+1) (p:=p) (s:=t) (by omega) (by omega) st S
 have hc1:=cityS_size hcz s
 have hg1:=cityS_size hcz t
 unfold MilS
 simp only[Plc.enc]at hp k1 k2 ⊢
 generalize cityS p s=c at*
 generalize cityS p t=g at*
 have hns:(nsF c p.dts).length<=41:=by rw[nsF_len];omega
 have ko1:=keyOk_st hc1
 have ko2:=keyOk_st hg1
 have ks:=keys_st
 have zi:zeroT Tryz.prog 3=some (.int .i64 0):=by kernel_rfl
 obtain⟨R,hR⟩:∃R:Int->Int->Prop,∀q e,R q e↔(if c=ByteArray.mk #[]∨g=ByteArray.mk #[] then q=0/\e=14 else MilR p.dts c g q e):=⟨λq e=>(if c=ByteArray.mk #[]∨g=ByteArray.mk #[] then q=0/\e=14 else MilR p.dts c g q e),λ_ _=>Iff.rfl⟩
 have hR1:(c=ByteArray.mk #[]∨g=ByteArray.mk #[])->R 0 14:=λh=>by rw[hR,if_pos h];exact⟨rfl,rfl⟩
 have hR2:¬(c=ByteArray.mk #[]∨g=ByteArray.mk #[])->∀q e,MilR p.dts c g q e->R q e:=λh q e k=>by rw[hR,if_neg h];exact k
 have:WO (dcall E (m+1+1) 179 [.agg [.sl 5 (p.aps.map Apt.enc) p.apsx,.sl 3 (p.dts.map Dst.enc) p.dtsx],.str s,.str t] []) λr T=>∃q e:Int,R q e/\r=.tup [.int .i64 q,.int .i64 e]:=by
  refine wo_dcall Tryz.func179 rfl (by decide) rfl 78 rfl (λa hal ha=>?_)
  have h0:a[0]?=some _:=ha 0 (by simp)
  have h1:a[1]?=some _:=ha 1 (by simp)
  have h2:a[2]?=some _:=ha 2 (by simp)
  clear ha
  obtain⟨P0,hP0⟩:∃P0:Ob,P0=Ob.row 2 [[.sl 5 (p.aps.map Apt.enc) p.apsx,.sl 3 (p.dts.map Dst.enc) p.dtsx]]:=⟨_,rfl⟩
  refine wc_scut (λa V=>V=[P0]/\a.length=78/\a[1]?=some (.str s)/\a[2]?=some (.str t)/\a[3]?=some (.loc 0 0 0)) ?_ ?_
  ·simp only[push_cast,hal,h0,h1,h2,↓WX,simprocAttr]
   rw[hP0]
  rintro a V ⟨hV,hal,h1,h2,h3⟩
  have hV0:V[0]?=some (Ob.row 2 [[.sl 5 (p.aps.map Apt.enc) p.apsx,.sl 3 (p.dts.map Dst.enc) p.dtsx]]):=by rw[hV,<-hP0];rfl
  refine wc_scut (λa W=>W=V/\a.length=78/\a[3]?=some (.loc 0 0 0)/\a[8]?=some (.str c)/\a[9]?=some (.str g)) ?_ ?_
  ·simp only[push_cast,hal,h1,h2,h3,hV0,k1,k2,↓WX,simprocAttr]
  rintro a W ⟨rfl,hal,h3,h8,h9⟩
  by_cases e1:c=ByteArray.mk #[]
  ·have d1:decide (c=ByteArray.mk #[])=true:=Yn e1
   simp only[push_cast,hal,h8,d1,str_eq,Tryz.f179,↓WX,simprocAttr]
   exact⟨_,_,hR1 (.inl e1),rfl⟩
  have d1:decide (c=ByteArray.mk #[])=false:=Ym e1
  by_cases e2:g=ByteArray.mk #[]
  ·have d2:decide (g=ByteArray.mk #[])=true:=Yn e2
   simp only[push_cast,hal,h8,h9,d1,d2,str_eq,Tryz.f179,↓WX,simprocAttr]
   exact⟨_,_,hR1 (.inr e2),rfl⟩
  have d2:decide (g=ByteArray.mk #[])=false:=Ym e2
  have hR2:=hR2 (λh=>h.elim e1 e2)
  refine wc_scut (λa V=>V=W/\a.length=78/\a[3]?=some (.loc 0 0 0)/\a[8]?=some (.str c)/\a[9]?=some (.str g)) ?_ ?_
  ·simp only[push_cast,hal,h3,h8,h9,d1,d2,str_eq,↓WX,simprocAttr]
  rintro a V ⟨rfl,hal,h3,h8,h9⟩
  obtain⟨V1,hV1⟩:∃V1:List Ob,V1=[P0,.map kSt [(.str c,.int .i64 0)],.row 1 [[.map 1]]]:=⟨_,rfl⟩
  refine wc_scut (λa W=>W=V1/\a.length=78/\a[3]?=some (.loc 0 0 0)/\a[9]?=some (.str g)/\a[10]?=some (.loc 2 0 0)) ?_ ?_
  ·rw[hV,hV1]
   simp only[push_cast,hal,h3,h8,h9,ko1,ks,und_mi,putM,Zd,List.set_cons_succ,List.set_cons_zero,Ze,Zz,↓WX,simprocAttr]
  clear hV hV0
  rintro a W ⟨hW,hal,h3,h9,h10⟩
  have w0:W[0]?=some (Ob.row 2 [[.sl 5 (p.aps.map Apt.enc) p.apsx,.sl 3 (p.dts.map Dst.enc) p.dtsx]]):=by rw[hW,hV1,<-hP0];rfl
  have w1:W[1]?=some (.map kSt ([(c,0)].map encM)):=by rw[hW,hV1];rfl
  have w2:W[2]?=some (.row 1 [[.map 1]]):=by rw[hW,hV1];rfl
  clear hW hV1 hP0
  refine wc_scut (λa V=>V=W/\a.length=78/\a[3]?=some (.loc 0 0 0)/\a[9]?=some (.str g)/\a[10]?=some (.loc 2 0 0)/\a[11]?=some (.func 215 [] [.loc 2 0 0])) ?_ ?_
  ·simp only[push_cast,hal,h3,h9,h10,↓WX,simprocAttr]
  rintro a V ⟨rfl,hal,h3,h9,h10,h11⟩
  have one:∀q∈[(c,(0:Int))],q=(c,0):=λq hq=>List.mem_singleton.1 hq
  have hg0:Gd (nsF c p.dts) [(c,0)]:=⟨by simp,λq hq=>by rw[one q hq];exact Yx,λq hq=>by rw[one q hq];exact Int.le_refl _,λq hq=>by rw[one q hq];exact Int.le_refl _⟩
  have hs0:Snd p.dts c [(c,0)]:=⟨by simp[rchF],λq hq=>by rw[one q hq];exact .nil⟩
  obtain⟨M0,hM0⟩:∃M0,M0=muF (nsF c p.dts) [(c,0)]:=⟨_,rfl⟩
  have hMb:M0<=36900000:=by
   rw[hM0]
   unfold muF
   have:sumV [(c,(0:Int))]=0:=by simp[sumV]
   rw[this]
   omega
  refine wc_scut (λa T=>(∃l,T[1]?=some (.map kSt (l.map encM))/\T[2]?=some (.row 1 [[.map 1]])/\(∀q∈l,0<=q.2)/\Snd p.dts c l/\∀x∈p.dts,x.ok->ClsD l x)/\a.length=78/\a[9]?=some (.str g)/\a[10]?=some (.loc 2 0 0)) ?_ ?_
  ·simp only[push_cast,↓WX,simprocAttr]
   refine wl_loop (λi a T=>(∃l b,a[12]?=some (.bool b)/\T[0]?=some (Ob.row 2 [[.sl 5 (p.aps.map Apt.enc) p.apsx,.sl 3 (p.dts.map Dst.enc) p.dtsx]])/\T[1]?=some (.map kSt (l.map encM))/\T[2]?=some (.row 1 [[.map 1]])/\Gd (nsF c p.dts) l/\Snd p.dts c l/\(b=true->i+muF (nsF c p.dts) l<=M0)/\(i+muF (nsF c p.dts) l<=M0+1)/\(b=false->∀x∈p.dts,x.ok->ClsD l x))/\a.length=78/\a[3]?=some (.loc 0 0 0)/\a[9]?=some (.str g)/\a[10]?=some (.loc 2 0 0)/\a[11]?=some (.func 215 [] [.loc 2 0 0])) (M0+1) ?_ (by omega) ?_
   ·simp only[push_cast,hal,h3,h9,h10,h11,simprocAttr]
    exact⟨_,_,rfl,w0,w1,w2,hg0,hs0,λ_=>by rw[<-hM0];omega,by rw[<-hM0];omega,λh=>by cases h⟩
   clear w0 w1 w2
   rintro i a T hi ⟨⟨l,b,h12,t0,t1,t2,hg,hs,hb1,hb2,hb3⟩,hal,h3,h9,h10,h11⟩
   cases b
   ·simp only[push_cast,hal,h9,h10,h12,↓WX,simprocAttr]
    exact⟨l,t1,t2,hg.lo,hs,hb3 rfl⟩
   replace hb1:=hb1 rfl
   have hlt:i<M0+1:=by omega
   refine wc_scut (λa V=>V=T/\a.length=78/\a[3]?=some (.loc 0 0 0)/\a[9]?=some (.str g)/\a[10]?=some (.loc 2 0 0)/\a[11]?=some (.func 215 [] [.loc 2 0 0])) ?_ ?_
   ·simp only[push_cast,hal,h3,h9,h10,h11,h12,↓WX,simprocAttr]
   rintro a V ⟨rfl,hal,h3,h9,h10,h11⟩
   rw[wc_block]
   refine wc_scut (λa W=>W=V/\a.length=78/\a[3]?=some (.loc 0 0 0)/\a[9]?=some (.str g)/\a[10]?=some (.loc 2 0 0)/\a[11]?=some (.func 215 [] [.loc 2 0 0])/\a[12]?=some (.bool false)) ?_ ?_
   ·simp only[push_cast,hal,h3,h9,h10,h11,↓WX,simprocAttr]
   rintro a W ⟨rfl,hal,h3,h9,h10,h11,h12⟩
   simp only[push_cast,hal,h3,t0,↓WX,simprocAttr]
   refine wl_loop (λj a T=>(∃l' b',a[12]?=some (.bool b')/\T[0]?=some (Ob.row 2 [[.sl 5 (p.aps.map Apt.enc) p.apsx,.sl 3 (p.dts.map Dst.enc) p.dtsx]])/\T[1]?=some (.map kSt (l'.map encM))/\T[2]?=some (.row 1 [[.map 1]])/\Gd (nsF c p.dts) l'/\Snd p.dts c l'/\(b'=true->muF (nsF c p.dts) l'+1<=muF (nsF c p.dts) l)/\muF (nsF c p.dts) l'<=muF (nsF c p.dts) l/\(b'=false->l'=l/\∀x∈p.dts.take j,x.ok->ClsD l x))/\a.length=78/\a[3]?=some (.loc 0 0 0)/\a[9]?=some (.str g)/\a[10]?=some (.loc 2 0 0)/\a[11]?=some (.func 215 [] [.loc 2 0 0])/\a[37]?=some (.sl 3 (p.dts.map Dst.enc) p.dtsx)/\a[38]?=some (.int .i64 p.dts.length)/\a[39]?=some (.int .i64 j)) p.dts.length ?_ (by omega) ?_
   ·simp only[push_cast,hal,h3,h9,h10,h11,h12,t0,simprocAttr,WY]
    exact⟨_,_,rfl,t1,t2,hg,hs,λh=>(by cases h),Yt _,λ_=>⟨rfl,λx hx=>by cases hx⟩⟩
   clear t0 t1 t2 hb3
   rintro j a T hj ⟨⟨l',b',h12,t0,t1,t2,hg',hs',hm1,hm2,hm3⟩,hal,h3,h9,h10,h11,h37,h38,h39⟩
   rcases Yf hj with hjlt |rfl
   case inr=>
    simp only[push_cast,hal,h3,h9,h10,h11,h12,h38,h39,hlt,↓WX,simprocAttr,WY]
    refine⟨_,_,rfl,t0,t1,t2,hg',hs',λh=>by have:=hm1 h;omega,by omega,λh=>?_⟩
    obtain⟨e,f⟩:=hm3 h
    rw[Zs]at f
    rw[e]
    exact f
   have hjc:(j:Int)<p.dts.length:=by omega
   obtain⟨x,hx⟩:∃x,p.dts[j]?=some x:=⟨p.dts[j],by simp⟩
   have hxm:=Yg hx
   have htk:p.dts.take (j+1)=p.dts.take j++[x]:=by rw[List.take_add_one,hx];rfl
   refine wc_scut (λa V=>V=T/\a.length=78/\a[3]?=some (.loc 0 0 0)/\a[9]?=some (.str g)/\a[10]?=some (.loc 2 0 0)/\a[11]?=some (.func 215 [] [.loc 2 0 0])/\a[12]?=some (.bool b')/\a[37]?=some (.sl 3 (p.dts.map Dst.enc) p.dtsx)/\a[38]?=some (.int .i64 p.dts.length)/\a[39]?=some (.int .i64 j)/\a[40]?=some (.bool true)) ?_ ?_
   ·simp only[push_cast,hal,h3,h9,h10,h11,h12,h37,h38,h39,hjc,↓WX,simprocAttr]
   rintro a V ⟨rfl,hal,h3,h9,h10,h11,h12,h37,h38,h39,h40⟩
   refine wc_scut (λa W=>W=V/\a.length=78/\a[3]?=some (.loc 0 0 0)/\a[9]?=some (.str g)/\a[10]?=some (.loc 2 0 0)/\a[11]?=some (.func 215 [] [.loc 2 0 0])/\a[12]?=some (.bool b')/\a[37]?=some (.sl 3 (p.dts.map Dst.enc) p.dtsx)/\a[38]?=some (.int .i64 p.dts.length)/\a[39]?=some (.int .i64 j)) ?_ ?_
   ·simp only[push_cast,hal,h3,h9,h10,h11,h12,h37,h38,h39,h40,↓WX]
   rintro a W ⟨rfl,hal,h3,h9,h10,h11,h12,h37,h38,h39⟩
   have u0:(W++[Ob.row 3 [x.enc]])[0]?=some (Ob.row 2 [[.sl 5 (p.aps.map Apt.enc) p.apsx,.sl 3 (p.dts.map Dst.enc) p.dtsx]]):=get_old t0
   have u1:(W++[Ob.row 3 [x.enc]])[1]?=some (.map kSt (l'.map encM)):=get_old t1
   have u2:(W++[Ob.row 3 [x.enc]])[2]?=some (.row 1 [[.map 1]]):=get_old t2
   have ux:(W++[Ob.row 3 [x.enc]])[W.length]?=some (.row 3 [x.enc]):=get_end
   have hWl:W.length≠1:=λe=>by have:=(Ya.1 t2).1;omega
   rw[wc_seq,wc_block]
   refine wc_scut (λa V=>V=W++[Ob.row 3 [x.enc]]/\a.length=78/\a[3]?=some (.loc 0 0 0)/\a[9]?=some (.str g)/\a[10]?=some (.loc 2 0 0)/\a[11]?=some (.func 215 [] [.loc 2 0 0])/\a[12]?=some (.bool b')/\a[14]?=some (.loc W.length 0 0)/\a[37]?=some (.sl 3 (p.dts.map Dst.enc) p.dtsx)/\a[38]?=some (.int .i64 p.dts.length)/\a[39]?=some (.int .i64 j)) ?_ ?_
   ·simp only[push_cast,hal,h3,h9,h10,h11,h12,h37,h38,h39,hx,set_end,get_end,Dst.enc,↓WX,simprocAttr]
   rintro a V ⟨rfl,hal,h3,h9,h10,h11,h12,h14,h37,h38,h39⟩
   clear t0 t1 t2
   generalize W++[Ob.row 3 [x.enc]]=V at*
   generalize W.length=z at*
   have ku:=λst S=>Pusb_c (n:=m+1) (by omega) x st S
   simp only[Dst.enc]at ku ux
   by_cases ox:x.ok
   case neg=>
    have uf:(decide (1<=x.mi) && decide (x.mi<=20000))=false:=by
     rw[Bool.eq_false_iff]
     intro h
     rw[Ye,Yy,Yy]at h
     exact ox h
    rw[uf]at ku
    simp(maxSteps:=1000000)(disch:=omega)only[push_cast,hal,h3,h9,h10,h11,h12,h14,h37,h38,h39,ux,ku,hjlt,wrap_ok,Int.natCast_add,Int.natCast_one,↓WX,simprocAttr]
    refine⟨_,_,rfl,u0,u1,u2,hg',hs',hm1,hm2,λh=>⟨(hm3 h).1,λy hy ky=>?_⟩⟩
    rw[htk]at hy
    rcases List.mem_append.1 hy with hy |hy
    ·exact (hm3 h).2 y hy ky
    ·rw[List.mem_singleton.1 hy]at ky
     exact (ox ky).elim
   have uf:(decide (1<=x.mi) && decide (x.mi<=20000))=true:=by
    rw[Ye,Yy,Yy]
    exact ox
   rw[uf]at ku
   obtain⟨o1,o2⟩:=ox
   have ox:x.ok:=⟨o1,o2⟩
   obtain⟨z1,z2⟩:=hdz x hxm
   have bnd:∀l,Gd (nsF c p.dts) l->∀q∈l,0<=q.2/\q.2<=1000000:=λl hl q hq=>by
    have a:=hl.lo q hq
    have b:=hl.hi q hq
    have d:=hl.len
    exact⟨a,by omega⟩
   have cr1:=Prelax_c (n:=m) u2 u1 (bnd l' hg') x.fr x.to z1 z2 x.mi (by omega) o2
   obtain⟨g1,m1,m1'⟩:=rlxF_good (x:=x.fr) (y:=x.to) (v:=x.mi) hg' hns (nsF_to hxm) (by omega) o2
   have s1:=(hs'.rlx hg'.lo hxm ox).1
   have f1:=rlxF_false (x:=x.fr) (y:=x.to) (v:=x.mi) hg'.lo
   generalize rlxF x.fr x.to x.mi l'=q1 at*
   obtain⟨l1,b1⟩:=q1
   dsimp only at cr1 g1 m1 m1' s1 f1
   obtain⟨V1,hV1⟩:∃V1,V1=V.set 1 (.map kSt (l1.map encM)):=⟨_,rfl⟩
   rw[<-hV1]at cr1
   have v0:V1[0]?=some (Ob.row 2 [[.sl 5 (p.aps.map Apt.enc) p.apsx,.sl 3 (p.dts.map Dst.enc) p.dtsx]]):=by rw[hV1,Yc (by omega)];exact u0
   have v1:V1[1]?=some (.map kSt (l1.map encM)):=by rw[hV1];exact Yo (Ya.1 u1).1
   have v2:V1[2]?=some (.row 1 [[.map 1]]):=by rw[hV1,Yc (by omega)];exact u2
   have vx:V1[z]?=some (.row 3 [[.str x.fr,.str x.to,.int .i64 x.mi]]):=by rw[hV1,Yc (λe=>hWl e.symm)];exact ux
   clear hV1
   have cr2:=Prelax_c (n:=m) v2 v1 (bnd l1 g1) x.to x.fr z2 z1 x.mi (by omega) o2
   obtain⟨g2,m2,m2'⟩:=rlxF_good (x:=x.to) (y:=x.fr) (v:=x.mi) g1 hns (nsF_fr hxm) (by omega) o2
   have s2:=(s1.rlx g1.lo hxm ox).2
   have f2:=rlxF_false (x:=x.to) (y:=x.fr) (v:=x.mi) g1.lo
   generalize rlxF x.to x.fr x.mi l1=q2 at*
   obtain⟨l2,b2⟩:=q2
   dsimp only at cr2 g2 m2 m2' s2 f2
   obtain⟨V2,hV2⟩:∃V2,V2=V1.set 1 (.map kSt (l2.map encM)):=⟨_,rfl⟩
   rw[<-hV2]at cr2
   have y0:V2[0]?=some (Ob.row 2 [[.sl 5 (p.aps.map Apt.enc) p.apsx,.sl 3 (p.dts.map Dst.enc) p.dtsx]]):=by rw[hV2,Yc (by omega)];exact v0
   have y1:V2[1]?=some (.map kSt (l2.map encM)):=by rw[hV2];exact Yo (Ya.1 v1).1
   have y2:V2[2]?=some (.row 1 [[.map 1]]):=by rw[hV2,Yc (by omega)];exact v2
   clear hV2
   cases b'
   ·cases b1
    ·simp(maxSteps:=1000000)(disch:=omega)only[push_cast,hal,h3,h9,h10,h11,h12,h14,h37,h38,h39,↓wo_callv,callV_func,ux,vx,ku,cr1,cr2,hjlt,Zz,Ze,wrap_ok,Int.natCast_add,Int.natCast_one,↓WX,simprocAttr]
     refine⟨_,_,rfl,y0,y1,y2,g2,s2,λh=>by have:=m2' h;omega,by omega,λh=>?_⟩
     obtain⟨e1,k1⟩:=f1 rfl
     obtain⟨e2,k2⟩:=f2 h
     obtain⟨e3,k3⟩:=hm3 rfl
     subst e1 e2 e3
     refine⟨rfl,λy hy ky=>?_⟩
     rw[htk]at hy
     rcases List.mem_append.1 hy with hy |hy
     ·exact k3 y hy ky
     ·rw[List.mem_singleton.1 hy]
      exact⟨k1,k2⟩
    ·simp(maxSteps:=1000000)(disch:=omega)only[push_cast,hal,h3,h9,h10,h11,h12,h14,h37,h38,h39,↓wo_callv,callV_func,ux,vx,ku,cr1,cr2,hjlt,Zz,Ze,wrap_ok,Int.natCast_add,Int.natCast_one,↓WX,simprocAttr]
     exact⟨_,_,rfl,y0,y1,y2,g2,s2,λ_=>by have:=m1' rfl;omega,by omega,λh=>by cases h⟩
   ·simp(maxSteps:=1000000)(disch:=omega)only[push_cast,hal,h3,h9,h10,h11,h12,h14,h37,h38,h39,↓wo_callv,callV_func,ux,vx,ku,cr1,cr2,hjlt,Zz,Ze,wrap_ok,Int.natCast_add,Int.natCast_one,↓WX,simprocAttr]
    exact⟨_,_,rfl,y0,y1,y2,g2,s2,λ_=>by have:=hm1 rfl;omega,by omega,λh=>by cases h⟩
  clear w0 w1 w2 hg0
  rintro a T ⟨⟨l,t1,t2,hl,hs,hcl⟩,hal,h9,h10⟩
  have hd:=hs.done hl hcl g
  have lk:=look_M g l hl
  by_cases q:rchF g l<0
  ·rw[if_pos q]at lk
   rw[if_pos q,if_pos q]at hd
   simp only[push_cast,hal,h9,h10,t1,t2,ko2,ks,zi,und_mi,lk,Tryz.f179,↓WX,simprocAttr,WY]
   exact⟨_,_,hR2 _ _ hd,rfl⟩
  ·rw[if_neg q]at lk
   rw[if_neg q,if_neg q]at hd
   simp only[push_cast,hal,h9,h10,t1,t2,ko2,ks,zi,und_mi,lk,Tryz.f179,↓WX,simprocAttr,WY]
   exact⟨_,_,hR2 _ _ hd,rfl⟩
 obtain⟨_,T,ho,q,e,hq,rfl⟩:=this
 exact⟨q,e,(hR q e).1 hq,λst S=>callD_pure rfl (by simp only[pureL_cons,pureL_nil,D.pure,Yj]at hp ⊢;exact hp) ho rfl⟩
end
end Go.Proofs.YtaklebjoenophaaGreat.Dm
