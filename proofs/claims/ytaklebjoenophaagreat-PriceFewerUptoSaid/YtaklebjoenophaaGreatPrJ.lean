/-
  Whether a condition holds, and whether a rule allows a trip: the program, exactly.
-/
import Derived.Test.YtaklebjoenophaaGreatPqF
set_option maxHeartbeats 64000000
set_option maxRecDepth 100000
set_option linter.unusedSimpArgs false
set_option linter.unusedVariables false
namespace Go.Proofs.YtaklebjoenophaaGreat.Dm
open Go Gw
mutual
def holP (t:Trp):Cnd->Bool
 | .mk k l _ a b pf pt pd c _=>
  if k=1 then true
  else if k=2 then !ayP t false l
  else if k=3 then ayP t true l
  else if k=4 then ayP t false l
  else if k=5 then perF pf pt pd t.day
  else if k=6 then perF pf pt pd t.sale
  else if k=7 then decide (IntKind.i64.wrap (t.day-t.sale)>=a)
  else if k=8 then if a<=b then decide (t.mnt>=a) && decide (t.mnt<=b) else decide (t.mnt>=a) || decide (t.mnt<=b)
  else if k=9 then decide (t.stops<=a)
  else if k=10 then decide (t.trs<=a)
  else if k=11 then t.cars.all λs=>c.any λx=>decide (x=s)
  else if k=12 then t.nums.all λx=> !(decide (x<a) || decide (x>b))
  else if k=13 then t.vias.all λs=>c.any λx=>decide (x=s)
  else if k=14 then c.any λx=>decide (x=t.typ)
  else false
def ayP (t:Trp) (b:Bool):List Cnd->Bool
 | []=>false
 |c::cs=>(holP t c == b) || ayP t b cs
end
theorem ayP_any (t:Trp) (b:Bool):∀l:List Cnd,ayP t b l=l.any λc=>holP t c == b
 | []=>rfl
 |c::cs=>by rw[ayP,List.any_cons,ayP_any t b cs]
def alwP (o:Option Rul) (t:Trp):Int:=match o with |none=>20 |some r=>if holP t r.when=true then 0 else 20
section
variable {n : Nat}
theorem PAm1_c {ck:Nat} {e:D} {c:List ByteArray} {S:List Ob} (ht:S[ck]?=some (.row 1 [[e]])) (g:FLs 1 Cnd.encT e c) (hc:c.length<=1048576) (hn:1048700<=n) (s:ByteArray):
  ∃T,callD E (dcall E (n+1)) false S 211 [.str s,.loc ck 0 0]=some (.bool (!c.any λx=>decide (x=s)),T)/\ExtS S T:=by
 have cc:=PContS_x (n:=n) g hc s (by omega)
 generalize (c.any λx=>decide (x=s))=b at*
 have:WO (dcall E (n+1) 211 [.str s,.loc ck 0 0] S) λd T=>d=.bool (!b)/\ExtS S T:=by
  refine wo_dcall Tryz.func211 rfl (by decide) rfl 8 rfl (λa hal ha=>?_)
  have h0:a[0]?=some _:=ha 0 (by simp)
  have h1:a[1]?=some _:=ha 1 (by simp)
  clear ha
  simp only[push_cast,hal,h0,h1,ht,cc,Tryz.f211,↓WX,simprocAttr]
  exact ExtS.refl
 obtain⟨r,T,hT,rfl,h⟩:=this
 exact⟨T,(callD_own rfl (by simp[pureL,D.pure])).trans hT,h⟩
theorem PAmong_x {d e:D} {l c:List ByteArray} (h:FLs 1 Cnd.encT d l) (hl:l.length<=1048576) (g:FLs 1 Cnd.encT e c) (hc:c.length<=1048576) (hn:1048900<=n):∀st S,callD E (dcall E n) st S 173 [d,e]=some (.bool (l.all λs=>c.any λx=>decide (x=s)),S):=by
 obtain⟨m,rfl⟩:∃m,n=m+4:=⟨n-4,by omega⟩
 have hp:=fls_pure h (Cnd.encT_pure l)
 have hpe:=fls_pure g (Cnd.encT_pure c)
 have o2:=fls_one g
 simp only[D.one]at o2
 obtain⟨T,cT,-⟩:=PCtS_d (n:=m) (S:=[Ob.row 1 [[e]]]) (F:=211) (ys:=[.loc 0 0 0]) (p:=λs=> !c.any λx=>decide (x=s)) h (by omega) hl rfl (λT hx s _=>PAm1_c (n:=m) (hx 0 _ rfl) g hc (by omega) s)
 have hal':(l.all λs=>c.any λx=>decide (x=s))= !(l.any λs=> !c.any λx=>decide (x=s)):=List.all_eq_not_any_not
 rw[hal']
 generalize (l.any λs=> !c.any λx=>decide (x=s))=b at*
 have oc:e.cells=[e]:=by rcases g with ⟨rfl,-⟩ | ⟨x,rfl⟩ <;> rfl
 simp only[D.cells]at oc
 have:WO (dcall E (m+4) 173 [d,e] []) λr T=>r=.bool (!b):=by
  refine wo_dcall Tryz.func173 rfl (by decide) rfl 9 rfl (λa hal ha=>?_)
  have h0:a[0]?=some _:=ha 0 (by simp)
  have h1:a[1]?=some _:=ha 1 (by simp)
  clear ha
  simp only[push_cast,hal,h0,h1,o2,oc,cT,Tryz.f173,↓WX,simprocAttr]
 obtain⟨_,T,ho,rfl⟩:=this
 exact λst S=>callD_pure rfl (by simp only[pureL_cons,pureL_nil,hp,hpe,Yj]) ho rfl
theorem PHl3_c {ck:Nat} {k u v pf pt pd:Int} {x1 x2:D} {S:List Ob} (ht:S[ck]?=some (.row 8 [[.int .i64 k,x1,.int .i64 u,.int .i64 v,.int .i64 pf,.int .i64 pt,.int .i64 pd,x2]])) (q:Int):
  ∃T,callD E (dcall E (n+1)) false S 175 [.int .i64 q,.loc ck 0 0]=some (.bool (decide (q<u) || decide (q>v)),T)/\ExtS S T:=by
 have:WO (dcall E (n+1) 175 [.int .i64 q,.loc ck 0 0] S) λd T=>d=.bool (decide (q<u) || decide (q>v))/\ExtS S T:=by
  refine wo_dcall Tryz.func175 rfl (by decide) rfl 14 rfl (λa hal ha=>?_)
  have h0:a[0]?=some _:=ha 0 (by simp)
  have h1:a[1]?=some _:=ha 1 (by simp)
  clear ha
  cases e1:decide (q<u)
  ·simp only[push_cast,Zx,hal,h0,h1,ht,e1,Bool.false_or,Tryz.f175,↓WX,simprocAttr]
   exact ExtS.refl
  ·simp only[push_cast,Zx,hal,h0,h1,ht,e1,Bool.true_or,Tryz.f175,↓WX,simprocAttr]
   exact ExtS.refl
 obtain⟨r,T,hT,rfl,h⟩:=this
 exact⟨T,(callD_own rfl (by simp[pureL,D.pure])).trans hT,h⟩
theorem PHl1_c {ck:Nat} {c:Cnd} {t:Trp} {x y z:D} {b:Bool} {S:List Ob} (hk:t.Ok x y z) (ht:S[ck]?=some (.row 9 [t.enc x y z])) (hf:∀st S,callD E (dcall E n) st S 119 [.agg c.enc,.agg (t.enc x y z)]=some (.bool b,S)):
  ∃T,callD E (dcall E (n+1)) false S 169 [.agg c.enc,.loc ck 0 0]=some (.bool b,T)/\ExtS S T:=by
 have ht':=get_old (J:=[Ob.row 8 [c.enc]]) ht
 have:WO (dcall E (n+1) 169 [.agg c.enc,.loc ck 0 0] S) λd T=>d=.bool b/\ExtS S T:=by
  cases c with |mk k' l' lx' u' v' pf' pt' pd' t' tx'=>?_
  simp only[Cnd.enc]at hf ht' ⊢
  simp only[Trp.enc]at hf ht'
  refine wo_dcall Tryz.func169 rfl (by decide) rfl 7 rfl (λa hal ha=>?_)
  have h0:a[0]?=some _:=ha 0 (by simp)
  have h1:a[1]?=some _:=ha 1 (by simp)
  clear ha
  simp only[push_cast,hal,h0,h1,ht',hf,get_end,Tryz.f169,↓WX,simprocAttr]
  exact ExtS.refl.push _
 obtain⟨r,T,hT,rfl,h⟩:=this
 exact⟨T,(callD_own rfl (by simp[pureL,D.pure])).trans hT,h⟩
theorem PHl2_c {ck:Nat} {c:Cnd} {t:Trp} {x y z:D} {b:Bool} {S:List Ob} (hk:t.Ok x y z) (ht:S[ck]?=some (.row 9 [t.enc x y z])) (hf:∀st S,callD E (dcall E n) st S 119 [.agg c.enc,.agg (t.enc x y z)]=some (.bool b,S)):
  ∃T,callD E (dcall E (n+1)) false S 170 [.agg c.enc,.loc ck 0 0]=some (.bool (!b),T)/\ExtS S T:=by
 have ht':=get_old (J:=[Ob.row 8 [c.enc]]) ht
 have:WO (dcall E (n+1) 170 [.agg c.enc,.loc ck 0 0] S) λd T=>d=.bool (!b)/\ExtS S T:=by
  cases c with |mk k' l' lx' u' v' pf' pt' pd' t' tx'=>?_
  simp only[Cnd.enc]at hf ht' ⊢
  simp only[Trp.enc]at hf ht'
  refine wo_dcall Tryz.func170 rfl (by decide) rfl 8 rfl (λa hal ha=>?_)
  have h0:a[0]?=some _:=ha 0 (by simp)
  have h1:a[1]?=some _:=ha 1 (by simp)
  clear ha
  simp only[push_cast,hal,h0,h1,ht',hf,get_end,Tryz.f170,↓WX,simprocAttr]
  exact ExtS.refl.push _
 obtain⟨r,T,hT,rfl,h⟩:=this
 exact⟨T,(callD_own rfl (by simp[pureL,D.pure])).trans hT,h⟩
end
theorem PHolds_x {t:Trp} {x y z:D} (ht:t.Ok x y z):∀(m:Nat) (n:Nat) (c:Cnd),bulkL c.enc<=m->m<=1048576->1100000+4*m<=n->∀st S,callD E (dcall E n) st S 119 [.agg c.enc,.agg (t.enc x y z)]=some (.bool (holP t c),S)
 |0,n,.mk k l lx u v pf pt pd tx xx,h,_,_=>by simp only[Cnd.enc,bulkL,bulkD]at h;omega
 |m+1,n,.mk k l lx u v pf pt pd tx xx,h,hm,hn=>by
  obtain⟨n,rfl⟩:∃n',n=n'+5:=⟨n-5,by omega⟩
  have hp:=Cnd.pure (.mk k l lx u v pf pt pd tx xx)
  have hb:=h
  simp only[Cnd.enc,bulkL,bulkD]at hb
  have hl:=Cnd.len_le l
  have htl:=text_len tx
  have htx:FLs 1 Cnd.encT (.sl 1 (tx.map Cnd.encT) xx) tx:=.inr ⟨_,rfl⟩
  have ih:∀c∈l,∀st S,callD E (dcall E (n+1)) st S 119 [.agg c.enc,.agg (t.enc x y z)]=some (.bool (holP t c),S):=λc hc st S=>by
   obtain⟨i,hi⟩:=List.getElem?_of_mem hc
   have:=Cnd.bulk_get hi
   exact PHolds_x ht m (n+1) c (by omega) (by omega) (by omega) st S
  obtain⟨V0,hV0⟩:∃V0:List Ob,V0=[Ob.row 8 [[.int .i64 k,.sl 8 (Cnd.encs l) lx,.int .i64 u,.int .i64 v,.int .i64 pf,.int .i64 pt,.int .i64 pd,.sl 1 (tx.map Cnd.encT) xx]],Ob.row 9 [t.enc x y z]]:=⟨_,rfl⟩
  have g0:V0[0]?=some (Ob.row 8 [[.int .i64 k,.sl 8 (Cnd.encs l) lx,.int .i64 u,.int .i64 v,.int .i64 pf,.int .i64 pt,.int .i64 pd,.sl 1 (tx.map Cnd.encT) xx]]):=by rw[hV0];rfl
  have g1:V0[1]?=some (Ob.row 9 [t.enc x y z]):=by rw[hV0];rfl
  obtain⟨T1,cy,-⟩:=PCtC_d (n:=n+1) (S:=V0) (lx:=lx) (F:=169) (ys:=[.loc 1 0 0]) (p:=λc=>holP t c) (l:=l) (by omega) (by omega) rfl (λT hx c hc=>PHl1_c (n:=n+1) ht (hx 1 _ g1) (ih c hc))
  obtain⟨T2,cn,-⟩:=PCtC_d (n:=n+1) (S:=V0) (lx:=lx) (F:=170) (ys:=[.loc 1 0 0]) (p:=λc=> !holP t c) (l:=l) (by omega) (by omega) rfl (λT hx c hc=>PHl2_c (n:=n+1) ht (hx 1 _ g1) (ih c hc))
  obtain⟨T3,cz,-⟩:=PCtZ_d (n:=n+1) (S:=V0) (F:=175) (ys:=[.loc 0 0 0]) (p:=λq=>decide (q<u) || decide (q>v)) ht.hy (by omega) ht.ly rfl (λT hx q _=>PHl3_c (n:=n+1) (hx 0 _ g0) q)
  have ey:(l.any λc=>holP t c)=ayP t true l:=by rw[ayP_any];simp
  have en:(l.any λc=> !holP t c)=ayP t false l:=by rw[ayP_any];simp
  have ez:(t.nums.all λx=> !(decide (x<u) || decide (x>v)))= !(t.nums.any λq=>decide (q<u) || decide (q>v)):=by rw[List.all_eq_not_any_not];simp
  rw[ey]at cy
  rw[en]at cn
  have ch:=λd=>PHas04_x (n:=n+4) (by omega) pf pt pd d
  have cw1:=PAmong_x (n:=n+4) ht.hx ht.lx htx (by omega) (by omega)
  have cw2:=PAmong_x (n:=n+4) ht.hz ht.lz htx (by omega) (by omega)
  have cs:=PContS_x (n:=n+4) htx (by omega) t.typ (by omega)
  have hp2:=ht.pure
  have o1:=fls_one ht.hx
  have o2:=fls_one ht.hy
  have o3:=fls_one ht.hz
  simp only[D.one]at o1 o2 o3
  simp only[Trp.enc,Cnd.enc]at hp hp2 hV0 g1 ⊢
  clear ih
  have:WO (dcall E (n+5) 119 [.agg [.int .i64 k,.sl 8 (Cnd.encs l) lx,.int .i64 u,.int .i64 v,.int .i64 pf,.int .i64 pt,.int .i64 pd,.sl 1 (tx.map Cnd.encT) xx],.agg [.str t.typ,.int .i64 t.sale,.int .i64 t.day,.int .i64 t.mnt,.int .i64 t.stops,.int .i64 t.trs,x,y,z]] []) λr T=>r=.bool (holP t (.mk k l lx u v pf pt pd tx xx)):=by
   rw[holP,ez]
   generalize ayP t true l=q1 at*
   generalize ayP t false l=q2 at*
   generalize (t.cars.all λs=>tx.any λx=>decide (x=s))=b1 at*
   generalize (t.nums.any λq=>decide (q<u) || decide (q>v))=b2 at*
   generalize (t.vias.all λs=>tx.any λx=>decide (x=s))=b3 at*
   generalize (tx.any λx=>decide (x=t.typ))=b4 at*
   have ch1:=ch t.day
   have ch2:=ch t.sale
   generalize perF pf pt pd t.day=b5 at*
   generalize perF pf pt pd t.sale=b6 at*
   obtain⟨typ,sale,day,mnt,stops,trs,cars,nums,vias⟩:=t
   dsimp only at*
   refine wo_dcall Tryz.func119 rfl (by decide) rfl 129 rfl (λa hal ha=>?_)
   have h0:a[0]?=some _:=ha 0 (by simp)
   have h1:a[1]?=some _:=ha 1 (by simp)
   clear ha
   refine wc_scut (λa V=>V=V0/\a.length=129/\a[2]?=some (.loc 0 0 0)/\a[3]?=some (.loc 1 0 0)) ?_ ?_
   ·simp only[push_cast,hal,h0,h1,o1,o2,o3,↓WX,simprocAttr]
    exact hV0.symm
   clear hV0
   rintro a V ⟨rfl,hal,h2,h3⟩
   refine wc_scut (λa W=>W=V/\a.length=129/\a[2]?=some (.loc 0 0 0)/\a[3]?=some (.loc 1 0 0)/\a[5]?=some (.func 169 [] [.loc 1 0 0])) ?_ ?_
   ·simp only[push_cast,hal,h2,h3,↓WX,simprocAttr]
   rintro a W ⟨rfl,hal,h2,h3,h5⟩
   refine wc_scut (λa V=>V=W/\a.length=129/\a[2]?=some (.loc 0 0 0)/\a[3]?=some (.loc 1 0 0)/\a[5]?=some (.func 169 [] [.loc 1 0 0])/\a[6]?=some (.func 170 [] [.loc 1 0 0])) ?_ ?_
   ·simp only[push_cast,hal,h2,h3,h5,↓WX,simprocAttr]
   rintro a V ⟨rfl,hal,h2,h3,h5,h6⟩
   by_cases k1:k=1
   ·subst k1
    simp only[push_cast,hal,h2,g0,Tryz.f119,↓WX,simprocAttr,WY]
   by_cases k2:k=2
   ·subst k2
    simp only[push_cast,hal,h2,h6,g0,cn,Tryz.f119,↓WX,simprocAttr,WY]
   by_cases k3:k=3
   ·subst k3
    simp only[push_cast,hal,h2,h5,g0,cy,Tryz.f119,↓WX,simprocAttr,WY]
   by_cases k4:k=4
   ·subst k4
    simp only[push_cast,hal,h2,h6,g0,cn,Tryz.f119,↓WX,simprocAttr,WY]
   by_cases k5:k=5
   ·subst k5
    simp only[push_cast,hal,h2,h3,g0,g1,ch1,Tryz.f119,↓WX,simprocAttr,WY]
   by_cases k6:k=6
   ·subst k6
    simp only[push_cast,hal,h2,h3,g0,g1,ch2,Tryz.f119,↓WX,simprocAttr,WY]
   by_cases k7:k=7
   ·subst k7
    simp only[push_cast,hal,h2,h3,g0,g1,Tryz.f119,↓WX,simprocAttr,WY]
   by_cases k8:k=8
   ·subst k8
    by_cases e:u<=v
    ·cases e1:decide (mnt>=u)
     ·simp only[push_cast,hal,h2,h3,g0,g1,e,e1,Tryz.f119,↓WX,simprocAttr,WY]
     ·simp only[push_cast,hal,h2,h3,g0,g1,e,e1,Tryz.f119,↓WX,simprocAttr,WY]
    ·cases e1:decide (mnt>=u)
     ·simp only[push_cast,hal,h2,h3,g0,g1,e,e1,Bool.false_or,Tryz.f119,↓WX,simprocAttr,WY]
     ·simp only[push_cast,hal,h2,h3,g0,g1,e,e1,Bool.true_or,Tryz.f119,↓WX,simprocAttr,WY]
   by_cases k9:k=9
   ·subst k9
    simp only[push_cast,hal,h2,h3,g0,g1,Tryz.f119,↓WX,simprocAttr,WY]
   by_cases k10:k=10
   ·subst k10
    simp only[push_cast,hal,h2,h3,g0,g1,Tryz.f119,↓WX,simprocAttr,WY]
   by_cases k11:k=11
   ·subst k11
    simp only[push_cast,hal,h2,h3,g0,g1,cw1,Tryz.f119,↓WX,simprocAttr,WY]
   by_cases k12:k=12
   ·subst k12
    simp only[push_cast,hal,h2,h3,g0,g1,cz,Tryz.f119,↓WX,simprocAttr,WY]
   by_cases k13:k=13
   ·subst k13
    simp only[push_cast,hal,h2,h3,g0,g1,cw2,Tryz.f119,↓WX,simprocAttr,WY]
   by_cases k14:k=14
   ·subst k14
    simp only[push_cast,hal,h2,h3,g0,g1,cs,Tryz.f119,↓WX,simprocAttr,WY]
   simp only[push_cast,hal,h2,g0,k1,k2,k3,k4,k5,k6,k7,k8,k9,k10,k11,k12,k13,k14,Tryz.f119,↓WX,simprocAttr,WY]
  obtain⟨_,T,hr,rfl⟩:=this
  exact λst S=>callD_pure rfl (by simp only[pureL_cons,pureL_nil,D.pure,hp,hp2,Yj]) hr rfl
section
variable {n : Nat}
theorem PHolds_z {t:Trp} {x y z:D} (ht:t.Ok x y z) (hn:1<=n):∀st S,callD E (dcall E n) st S 119 [.agg [.int .i64 0,.nils,.int .i64 0,.int .i64 0,.int .i64 0,.int .i64 0,.int .i64 0,.nils],.agg (t.enc x y z)]=some (.bool false,S):=by
 obtain⟨m,rfl⟩:∃m,n=m+1:=⟨n-1,by omega⟩
 have hp2:=ht.pure
 have o1:=fls_one ht.hx
 have o2:=fls_one ht.hy
 have o3:=fls_one ht.hz
 simp only[D.one]at o1 o2 o3
 simp only[Trp.enc]at hp2 ⊢
 have:WO (dcall E (m+1) 119 [.agg [.int .i64 0,.nils,.int .i64 0,.int .i64 0,.int .i64 0,.int .i64 0,.int .i64 0,.nils],.agg [.str t.typ,.int .i64 t.sale,.int .i64 t.day,.int .i64 t.mnt,.int .i64 t.stops,.int .i64 t.trs,x,y,z]] []) λr T=>r=.bool false:=by
  refine wo_dcall Tryz.func119 rfl (by decide) rfl 129 rfl (λa hal ha=>?_)
  have h0:a[0]?=some _:=ha 0 (by simp)
  have h1:a[1]?=some _:=ha 1 (by simp)
  clear ha
  simp only[push_cast,hal,h0,h1,o1,o2,o3,Tryz.f119,↓WX,simprocAttr,WY]
 obtain⟨_,T,hr,rfl⟩:=this
 exact λst S=>callD_pure rfl (by simp only[pureL_cons,pureL_nil,D.pure,hp2,Yj]) hr rfl
theorem PAllows21_x {t:Trp} {x y z:D} (ht:t.Ok x y z) (o:Option Rul) (hb:∀r,o=some r->bulkL r.when.enc<=1048576) (hn:5300010<=n):∀st S,callD E (dcall E n) st S 63 [rulD o,.agg (t.enc x y z)]=some (.int .i64 (alwP o t),S):=by
 obtain⟨m,rfl⟩:∃m,n=m+1:=⟨n-1,by omega⟩
 have hone:x.one=true/\y.one=true/\z.one=true:=⟨fls_one ht.hx,fls_one ht.hy,fls_one ht.hz⟩
 cases o with
 |none=>
  have hz:=PHolds_z (n:=m) ht (by omega)
  exact PAllows_x (n:=m) (y0:=0) rfl rfl t ht hone false hz
 |some r=>
  have hc:=PHolds_x ht 1048576 m r.when (hb r rfl) (by omega) (by omega)
  have hp:=Rul_pure r
  simp only[rulD,alwP]
  generalize holP t r.when=b at*
  obtain⟨w,hw⟩:∃w,r.when=w:=⟨_,rfl⟩
  have hxe:Rul.enc r=.int .i64 r.num::(w.enc++[.sl 1 (r.comb.map encZ) r.combx,.int .i64 r.mins,.int .i64 r.maxs,.int .i64 r.chg,.int .i64 r.ref,.sl 2 (r.pcs.map encPc) r.pcx]):=by rw[<-hw];rfl
  rw[hw]at hc
  cases w with |mk k' l' lx' u' v' pf' pt' pd' t' tx'=>?_
  simp only[Cnd.enc,Ze,Zz]at hxe hc
  rw[hxe]at hp ⊢
  exact PAllows_x (n:=m) rfl (by simp only[pureL_cons,pureL_nil,D.pure,hp,Yj]) t ht hone b hc
end
end Go.Proofs.YtaklebjoenophaaGreat.Dm
