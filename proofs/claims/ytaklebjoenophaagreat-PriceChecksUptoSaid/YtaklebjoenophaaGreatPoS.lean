/-
  Days of a period and conditions of a rule: the reference, exactly.
  Whether a condition holds, and whether a rule allows a trip: the reference, exactly.
  Local times, and what is known of a trip: the reference, exactly.
-/
import Derived.Test.YtaklebjoenophaaGreatPoH
set_option maxHeartbeats 64000000
set_option maxRecDepth 100000
set_option linter.unusedSimpArgs false
set_option linter.unusedVariables false
namespace Go.Proofs.YtaklebjoenophaaGreat.Dm
open Go Gw
def wdF (x:Int):Nat:=((x.tmod 7+12).tmod 7).toNat
theorem wdF_le (x:Int):wdF x<=6:=by
 obtain⟨h1,h2⟩:=tmod_pos (a:=x) (b:=7) (by omega)
 have h4:=Int.tmod_lt_of_pos (x.tmod 7+12) (b:=7) (by omega)
 unfold wdF
 omega
def chkF (f t d:Int):Int:=if f<0∨t<f∨36525<=t then 12 else if 800<=t-f then 4 else if d<1∨127<d then 2 else 0
def perF (f t d x:Int):Bool:=decide (chkF f t d=0) && (decide (f<=x) && (decide (x<=t) && decide ((d.tdiv (2 ^ wdF x)).tmod 2=1)))
structure Trp where
 typ:ByteArray
 sale:Int
 day:Int
 mnt:Int
 stops:Int
 trs:Int
 cars:List ByteArray
 nums:List Int
 vias:List ByteArray
def Trp.enc (t:Trp) (x y z:D):List D:=[.str t.typ,.int .i64 t.sale,.int .i64 t.day,.int .i64 t.mnt,.int .i64 t.stops,.int .i64 t.trs,x,y,z]
structure Trp.Ok (t:Trp) (x y z:D):Prop where
 hx:FLs 1 Cnd.encT x t.cars
 hy:FLs 1 encZ y t.nums
 hz:FLs 1 Cnd.encT z t.vias
 lx:t.cars.length<=1048576
 ly:t.nums.length<=1048576
 lz:t.vias.length<=1048576
theorem Trp.Ok.pure {t:Trp} {x y z:D} (h:t.Ok x y z):Yp (t.enc x y z)=true:=by
 simp only[Trp.enc,Yc,Yg,D.pure,Xr h.hx (Cnd.encT_pure _),Xr h.hy (encZs_pure' _),Xr h.hz (Cnd.encT_pure _),Ua]
mutual
def hol (t:Trp):Cnd->Bool
 | .mk k l _ a b pf pt pd c _=>
  if k=1 then true
  else if k=2 then decide ((cnt t l:Int)=l.length)
  else if k=3 then decide ((cnt t l:Int)>0)
  else if k=4 then decide ((cnt t l:Int)=0)
  else if k=5 then perF pf pt pd t.day
  else if k=6 then perF pf pt pd t.sale
  else if k=7 then decide (IntKind.i64.wrap (t.day-t.sale)>=a)
  else if k=8 then if a<=b then decide (t.mnt>=a) && decide (t.mnt<=b) else decide (t.mnt>=a) || decide (t.mnt<=b)
  else if k=9 then decide (t.stops<=a)
  else if k=10 then decide (t.trs<=a)
  else if k=11 then t.cars.all λs=>c.any λx=>decide (x=s)
  else if k=12 then t.nums.all λx=> !(decide (x<a) || decide (x>b))
  else if k=13 then t.vias.all λs=>c.any λx=>decide (x=s)
  else c.any λx=>decide (x=t.typ)
def cnt (t:Trp):List Cnd->Nat
 | []=>0
 |c::cs=>(if hol t c=true then 1 else 0)+cnt t cs
end
theorem cnt_add (t:Trp) (x:Cnd):∀l:List Cnd,cnt t (l++[x])=cnt t l+(if hol t x=true then 1 else 0)
 | []=>by simp[cnt]
 |c::cs=>by rw[Uv,cnt,cnt,cnt_add t x cs,Nat.add_assoc]
theorem cnt_take {t:Trp} {l:List Cnd} {i:Nat} {x:Cnd} (h:l[i]?=some x):cnt t (l.take (i+1))=cnt t (l.take i)+(if hol t x=true then 1 else 0):=by
 rw[List.take_add_one,h];exact cnt_add t x _
theorem cnt_le (t:Trp):∀l:List Cnd,cnt t l<=l.length
 | []=>Vt _
 |c::cs=>by
  have:=cnt_le t cs
  rw[cnt,Uu]
  split <;> omega
section
variable {n : Nat}
theorem Weekday_x (hn:1<=n) (x:Int):∀st S,Yi E (Yb E n) st S 237 [.int .i64 x]=some (.int .i64 (wdF x:Int),S):=by
 obtain⟨m,rfl⟩:∃m,n=m+1:=⟨n-1,by omega⟩
 obtain⟨h1,h2⟩:=tmod_pos (a:=x) (b:=7) (by omega)
 have hw:((x.tmod 7+12).tmod 7)=(wdF x:Int):=by
  have:=Int.tmod_nonneg (a:=x.tmod 7+12) 7 (by omega)
  unfold wdF
  omega
 obtain⟨w,hw'⟩:∃w,w=wdF x:=⟨_,rfl⟩
 rw[<-hw']at hw ⊢
 obtain⟨y,hy⟩:∃y,y=x.tmod 7:=⟨_,rfl⟩
 rw[<-hy]at h1 h2 hw
 have w1:IntKind.i64.wrap (y+12)=y+12:=Yf (by omega) (by omega)
 have:WO (Yb E (m+1) 237 [.int .i64 x] []) λr T=>r=.int .i64 w:=by
  refine Ye Tryz.func237 rfl (by decide) rfl 7 rfl (λa hal ha=>?_)
  have h0:=aQ1 ha
  clear ha
  simp only[push_cast,hal,h0,<-hy,w1,hw,Tryz.f237,↓WX,simprocAttr]
 obtain⟨_,T,ho,rfl⟩:=this
 exact λst S=>Yd rfl rfl ho rfl
theorem bit04_x (hn:20<=n) (x:Int):∀st S,Yi E (Yb E n) st S 221 [.int .i64 x]=some (.int .i64 (2 ^ wdF x),S):=by
 obtain⟨m,rfl⟩:∃m,n=m+1:=⟨n-1,by omega⟩
 have cw:=Weekday_x (n:=m) (by omega) x
 have hw:=wdF_le x
 generalize wdF x=w at*
 have:WO (Yb E (m+1) 221 [.int .i64 x] []) λr T=>∃v:Int,r=.int .i64 v/\P2 w v:=by
  refine Ye Tryz.func221 rfl (by decide) rfl 14 rfl (λa hal ha=>?_)
  have h0:=aQ1 ha
  clear ha
  simp only[push_cast,↓WX,simprocAttr]
  refine Yk (λi a T=>(∃v:Int,a[3]?=some (.int .i64 v)/\P2 i v)/\a.length=14/\a[0]?=some (.int .i64 x)/\a[4]?=some (.int .i64 i)) w ?_ (by omega) ?_
  ·simp only[push_cast,hal,h0,simprocAttr,WY]
   exact⟨_,rfl,.inl ⟨rfl,rfl⟩⟩
  rintro i a T hi ⟨⟨v,h3,hv⟩,hal,h0,h4⟩
  rcases Kw hi with hlt |rfl
  case inr=>
   simp only[push_cast,hal,h0,h3,h4,cw,Tryz.f221,↓WX,simprocAttr,WY]
   exact⟨_,rfl,hv⟩
  have hltc:(i:Int)<w:=by omega
  have w1:IntKind.i64.wrap (2*v)=2*v:=by unfold P2 at hv;exact Yf (by omega) (by omega)
  simp(disch:=omega)only[push_cast,hal,h0,h3,h4,cw,hltc,hlt,w1,Yf,↓WX,simprocAttr,WY]
  exact⟨_,rfl,by unfold P2 at hv ⊢;omega⟩
 obtain⟨_,T,ho,v,rfl,h1⟩:=this
 have:v=2 ^ w:=by
  unfold P2 at h1
  rcases h1 with ⟨rfl,rfl⟩ | ⟨rfl,rfl⟩ | ⟨rfl,rfl⟩ | ⟨rfl,rfl⟩ | ⟨rfl,rfl⟩ | ⟨rfl,rfl⟩ | ⟨rfl,rfl⟩ <;> rfl
 subst this
 exact λst S=>Yd rfl rfl ho rfl
theorem r04Check_x (hn:1<=n) (f t d:Int):∀st S,Yi E (Yb E n) st S 220 [.agg [.int .i64 f,.int .i64 t,.int .i64 d]]=some (.int .i64 (chkF f t d),S):=by
 obtain⟨m,rfl⟩:∃m,n=m+1:=⟨n-1,by omega⟩
 have:WO (Yb E (m+1) 220 [.agg [.int .i64 f,.int .i64 t,.int .i64 d]] []) λr T=>r=.int .i64 (chkF f t d):=by
  obtain⟨q,hq⟩:∃q,q=chkF f t d:=⟨_,rfl⟩
  rw[<-hq]
  unfold chkF at hq
  refine Ye Tryz.func220 rfl (by decide) rfl 32 rfl (λa hal ha=>?_)
  have h0:=aQ1 ha
  clear ha
  by_cases q1:f<0
  ·simp only[push_cast,hal,h0,q1,Tryz.f220,↓WX,simprocAttr]
   rw[hq,if_pos (by omega)]
  by_cases q2:t<f
  ·simp only[push_cast,Vn,hal,h0,q1,q2,Tryz.f220,↓WX,simprocAttr]
   rw[hq,if_pos (by omega)]
  by_cases q3:36525<=t
  ·simp only[push_cast,Vn,hal,h0,q1,q2,q3,Tryz.f220,↓WX,simprocAttr]
   rw[hq,if_pos (by omega)]
  rw[if_neg (by omega)]at hq
  by_cases q4:800<=t-f
  ·simp(maxSteps:=1000000)(disch:=omega)only[push_cast,Vn,hal,h0,q1,q2,q3,q4,Yf,Tryz.f220,↓WX,simprocAttr]
   rw[hq,if_pos (by omega)]
  rw[if_neg (by omega)]at hq
  by_cases q5:d<1
  ·simp(maxSteps:=1000000)(disch:=omega)only[push_cast,Vn,hal,h0,q1,q2,q3,q4,q5,Yf,Tryz.f220,↓WX,simprocAttr]
   rw[hq,if_pos (by omega)]
  by_cases q6:127<d
  ·simp(maxSteps:=1000000)(disch:=omega)only[push_cast,Vn,hal,h0,q1,q2,q3,q4,q5,q6,Yf,Tryz.f220,↓WX,simprocAttr]
   rw[hq,if_pos (by omega)]
  ·simp(maxSteps:=1000000)(disch:=omega)only[push_cast,Vn,hal,h0,q1,q2,q3,q4,q5,q6,Yf,Tryz.f220,↓WX,simprocAttr]
   rw[hq,if_neg (by omega)]
 obtain⟨_,T,ho,rfl⟩:=this
 exact λst S=>Yd rfl rfl ho rfl
theorem p2_pos (w:Nat):¬((2:Int) ^ w=0):=by
 have:(0:Int)<2 ^ w:=Int.pow_pos (by omega)
 omega
theorem Has04_x (hn:30<=n) (f t d x:Int):∀st S,Yi E (Yb E n) st S 187 [.agg [.int .i64 f,.int .i64 t,.int .i64 d],.int .i64 x]=some (.bool (perF f t d x),S):=by
 obtain⟨m,rfl⟩:∃m,n=m+1:=⟨n-1,by omega⟩
 have ce:=r04Check_x (n:=m) (by omega) f t d
 have cv:=bit04_x (n:=m) (by omega) x
 have hv0:=p2_pos (wdF x)
 unfold perF
 have hd:chkF f t d=0->1<=d/\d<=127:=λh=>by
  unfold chkF at h
  repeat' split at h
  all_goals first |omega | (cases h)
 generalize chkF f t d=e at*
 have hv1:(1:Int)<=2 ^ wdF x:=by have:(0:Int)<2 ^ wdF x:=Int.pow_pos (by omega);omega
 generalize (2:Int) ^ wdF x=v at*
 have:WO (Yb E (m+1) 187 [.agg [.int .i64 f,.int .i64 t,.int .i64 d],.int .i64 x] []) λr T=>r=.bool (decide (e=0) && (decide (f<=x) && (decide (x<=t) && decide ((d.tdiv v).tmod 2=1)))):=by
  refine Ye Tryz.func187 rfl (by decide) rfl 29 rfl (λa hal ha=>?_)
  obtain⟨h0,h1⟩:=aQ2 ha
  clear ha
  by_cases q1:e=0
  case neg=>
   simp only[push_cast,hal,h0,ce,q1,Tryz.f187,↓WX,simprocAttr,WY]
  have hd':=hd q1
  subst q1
  by_cases q2:f<=x
  case neg=>
   simp only[push_cast,hal,h0,h1,ce,q2,Tryz.f187,↓WX,simprocAttr,WY]
  by_cases q3:x<=t
  case neg=>
   simp only[push_cast,hal,h0,h1,ce,q2,q3,Tryz.f187,↓WX,simprocAttr,WY]
  have hw:IntKind.i64.wrap (d.tdiv v)=d.tdiv v:=by
   have h1:=Int.tdiv_nonneg (a:=d) (b:=v) (by omega) (by omega)
   have h2:d.tdiv v<=d:=Int.tdiv_le_self _ (by omega)
   exact Yf (by omega) (by omega)
  simp only[push_cast,hal,h0,h1,ce,cv,q2,q3,hv0,hw,Tryz.f187,↓WX,simprocAttr,WY]
 obtain⟨_,T,ho,rfl⟩:=this
 exact λst S=>Yd rfl rfl ho rfl
theorem count20_x {t:Trp} {x y z:D} (ht:t.Ok x y z) {l:List Cnd} {lx:Bool} (hl:l.length<=1048576) (hn:1048580<=n) (hf:∀c∈l,∀st S,Yi E (Yb E n) st S 137 [.agg c.enc,.agg (t.enc x y z)]=some (.bool (hol t c),S)):∀st S,Yi E (Yb E (n+1)) st S 186 [.sl 8 (Cnd.encs l) lx,.agg (t.enc x y z)]=some (.int .i64 (cnt t l),S):=by
 have hp:=ht.pure
 have o1:=Yv ht.hx
 have o2:=Yv ht.hy
 have o3:=Yv ht.hz
 simp only[D.one]at o1 o2 o3
 simp only[Trp.enc]at hf hp ⊢
 have hel:=Cnd.encs_len l
 have:WO (Yb E (n+1) 186 [.sl 8 (Cnd.encs l) lx,.agg [.str t.typ,.int .i64 t.sale,.int .i64 t.day,.int .i64 t.mnt,.int .i64 t.stops,.int .i64 t.trs,x,y,z]] []) λr T=>r=.int .i64 (cnt t l:Int):=by
  refine Ye Tryz.func186 rfl (by decide) rfl 22 rfl (λa hal ha=>?_)
  obtain⟨h0,h1⟩:=aQ2 ha
  clear ha
  simp only[push_cast,h1,o1,o2,o3,↓WX,simprocAttr]
  refine Yk (λi a T=>T=[Ob.row 9 [[.str t.typ,.int .i64 t.sale,.int .i64 t.day,.int .i64 t.mnt,.int .i64 t.stops,.int .i64 t.trs,x,y,z]]]/\a.length=22/\a[0]?=some (.sl 8 (Cnd.encs l) lx)/\a[3]?=some (.loc 0 0 0)/\a[5]?=some (.int .i64 (cnt t (l.take i)))/\a[6]?=some (.int .i64 i)) l.length ?_ (by omega) ?_
  ·simp only[push_cast,hal,h0,List.take_zero,cnt,simprocAttr,WY]
  rintro i a T hi ⟨rfl,hal,h0,h3,h5,h6⟩
  rcases Kw hi with hlt |rfl
  case inr=>
   rw[Vi]at h5
   simp only[push_cast,hal,h0,h5,h6,hel,Tryz.f186,↓WX,simprocAttr,WY]
  have hltc:(i:Int)<l.length:=by omega
  obtain⟨c,hc⟩:∃c,l[i]?=some c:=⟨l[i],by simp⟩
  have cc:=hf c (Kx hc)
  have hg:=Cnd.encs_get hc
  have hk:=cnt_take (t:=t) hc
  have hle:=cnt_le t (l.take i)
  rw[Ve]at hle
  generalize cnt t (l.take i)=k0 at*
  cases hb:hol t c
  ·rw[hb]at cc hk
   simp only[Ui,if_false,Nat.add_zero]at hk
   cases c with |mk k' l' lx' u' v' pf' pt' pd' t' tx'=>?_
   simp only[Cnd.enc]at cc hg
   simp(disch:=omega)only[push_cast,hal,h0,h3,h5,h6,hel,hltc,hlt,hg,cc,hk,Yf,↓WX,simprocAttr,WY]
  ·rw[hb]at cc hk
   simp only[if_true]at hk
   cases c with |mk k' l' lx' u' v' pf' pt' pd' t' tx'=>?_
   simp only[Cnd.enc]at cc hg
   simp(disch:=omega)only[push_cast,hal,h0,h3,h5,h6,hel,hltc,hlt,hg,cc,hk,Yf,↓WX,simprocAttr,WY]
 obtain⟨_,T,hr,rfl⟩:=this
 exact λst S=>Yd rfl (by simp only[Yc,Yg,D.pure,Cnd.pures,hp,Ua]) hr rfl
end
theorem Holds20_x {t:Trp} {x y z:D} (ht:t.Ok x y z):∀(m:Nat) (n:Nat) (c:Cnd),Yn c.enc<=m->m<=1048576->1100000+2*m<=n->∀st S,Yi E (Yb E n) st S 137 [.agg c.enc,.agg (t.enc x y z)]=some (.bool (hol t c),S)
 |0,n,.mk k l lx u v pf pt pd tx xx,h,_,_=>by simp only[Cnd.enc,Yn,Zy]at h;omega
 |m+1,n,.mk k l lx u v pf pt pd tx xx,h,hm,hn=>by
  obtain⟨n,rfl⟩:∃n',n=n'+1+1:=⟨n-2,by omega⟩
  have hp:=Cnd.pure (.mk k l lx u v pf pt pd tx xx)
  have hb:=h
  simp only[Cnd.enc,Yn,Zy]at hb
  have hl:=Cnd.len_le l
  have htl:=text_len tx
  have htx:FLs 1 Cnd.encT (.sl 1 (tx.map Cnd.encT) xx) tx:=.inr ⟨_,rfl⟩
  have cc:=count20_x (n:=n) ht (l:=l) (lx:=lx) (by omega) (by omega) (λc hc st S=>by
   obtain⟨i,hi⟩:=List.getElem?_of_mem hc
   have:=Cnd.bulk_get hi
   exact Holds20_x ht m n c (by omega) (by omega) (by omega) st S)
  have ch:=λd=>Has04_x (n:=n+1) (by omega) pf pt pd d
  have cw1:=within20_x (n:=n+1) ht.hx ht.lx htx (by omega) (by omega)
  have cw2:=within20_x (n:=n+1) ht.hz ht.lz htx (by omega) (by omega)
  have cb:=between20_x (n:=n+1) ht.hy ht.ly u v (by omega)
  have cs:=has20_x (n:=n+1) htx (by omega) t.typ (by omega)
  have hp2:=ht.pure
  have o1:=Yv ht.hx
  have o2:=Yv ht.hy
  have o3:=Yv ht.hz
  simp only[D.one]at o1 o2 o3
  have hcl:=cnt_le t l
  simp only[Trp.enc,Cnd.enc]at cc hp hp2 ⊢
  have:WO (Yb E (n+1+1) 137 [.agg [.int .i64 k,.sl 8 (Cnd.encs l) lx,.int .i64 u,.int .i64 v,.int .i64 pf,.int .i64 pt,.int .i64 pd,.sl 1 (tx.map Cnd.encT) xx],.agg [.str t.typ,.int .i64 t.sale,.int .i64 t.day,.int .i64 t.mnt,.int .i64 t.stops,.int .i64 t.trs,x,y,z]] []) λr T=>r=.bool (hol t (.mk k l lx u v pf pt pd tx xx)):=by
   have hel:=Cnd.encs_len l
   unfold hol
   generalize cnt t l=q at*
   generalize (t.cars.all λs=>tx.any λx=>decide (x=s))=b1 at*
   generalize (t.nums.all λx=> !(decide (x<u) || decide (x>v)))=b2 at*
   generalize (t.vias.all λs=>tx.any λx=>decide (x=s))=b3 at*
   generalize (tx.any λx=>decide (x=t.typ))=b4 at*
   have ch1:=ch t.day
   have ch2:=ch t.sale
   generalize perF pf pt pd t.day=b5 at*
   generalize perF pf pt pd t.sale=b6 at*
   obtain⟨typ,sale,day,mnt,stops,trs,cars,nums,vias⟩:=t
   dsimp only at*
   refine Ye Tryz.func137 rfl (by decide) rfl 130 rfl (λa hal ha=>?_)
   obtain⟨h0,h1⟩:=aQ2 ha
   clear ha
   by_cases k1:k=1
   ·subst k1
    simp only[push_cast,hal,h0,h1,o1,o2,o3,Tryz.f137,↓WX,simprocAttr,WY]
   by_cases k2:k=2
   ·subst k2
    simp only[push_cast,hal,h0,h1,o1,o2,o3,cc,hel,Tryz.f137,↓WX,simprocAttr,WY]
   by_cases k3:k=3
   ·subst k3
    simp only[push_cast,Vn,hal,h0,h1,o1,o2,o3,cc,Tryz.f137,↓WX,simprocAttr,WY]
   by_cases k4:k=4
   ·subst k4
    simp only[push_cast,hal,h0,h1,o1,o2,o3,cc,Tryz.f137,↓WX,simprocAttr,WY]
   by_cases k5:k=5
   ·subst k5
    simp only[push_cast,hal,h0,h1,o1,o2,o3,ch1,Tryz.f137,↓WX,simprocAttr,WY]
   by_cases k6:k=6
   ·subst k6
    simp only[push_cast,hal,h0,h1,o1,o2,o3,ch2,Tryz.f137,↓WX,simprocAttr,WY]
   by_cases k7:k=7
   ·subst k7
    simp only[push_cast,hal,h0,h1,o1,o2,o3,Tryz.f137,↓WX,simprocAttr,WY]
   by_cases k8:k=8
   ·subst k8
    by_cases e:u<=v
    ·cases e1:decide (mnt>=u)
     ·simp only[push_cast,hal,h0,h1,o1,o2,o3,e,e1,Tryz.f137,↓WX,simprocAttr,WY]
     ·simp only[push_cast,hal,h0,h1,o1,o2,o3,e,e1,Tryz.f137,↓WX,simprocAttr,WY]
    ·cases e1:decide (mnt>=u)
     ·simp only[push_cast,hal,h0,h1,o1,o2,o3,e,e1,Bool.false_or,Tryz.f137,↓WX,simprocAttr,WY]
     ·simp only[push_cast,hal,h0,h1,o1,o2,o3,e,e1,Bool.true_or,Tryz.f137,↓WX,simprocAttr,WY]
   by_cases k9:k=9
   ·subst k9
    simp only[push_cast,hal,h0,h1,o1,o2,o3,Tryz.f137,↓WX,simprocAttr,WY]
   by_cases k10:k=10
   ·subst k10
    simp only[push_cast,hal,h0,h1,o1,o2,o3,Tryz.f137,↓WX,simprocAttr,WY]
   by_cases k11:k=11
   ·subst k11
    simp only[push_cast,hal,h0,h1,o1,o2,o3,cw1,Tryz.f137,↓WX,simprocAttr,WY]
   by_cases k12:k=12
   ·subst k12
    simp only[push_cast,hal,h0,h1,o1,o2,o3,cb,Tryz.f137,↓WX,simprocAttr,WY]
   by_cases k13:k=13
   ·subst k13
    simp only[push_cast,hal,h0,h1,o1,o2,o3,cw2,Tryz.f137,↓WX,simprocAttr,WY]
   simp only[push_cast,hal,h0,h1,o1,o2,o3,k1,k2,k3,k4,k5,k6,k7,k8,k9,k10,k11,k12,k13,cs,Tryz.f137,↓WX,simprocAttr,WY]
  obtain⟨_,T,hr,rfl⟩:=this
  exact λst S=>Yd rfl (by simp only[Yc,Yg,D.pure,hp,hp2,Ua]) hr rfl
def alwF (o:Option Rul) (t:Trp):Int:=match o with |none=>20 |some r=>if hol t r.when=true then 0 else 20
section
variable {n : Nat}
theorem Holds20_z {t:Trp} {x y z:D} (ht:t.Ok x y z) (hn:1048600<=n):∀st S,Yi E (Yb E n) st S 137 [.agg [.int .i64 0,.nils,.int .i64 0,.int .i64 0,.int .i64 0,.int .i64 0,.int .i64 0,.nils],.agg (t.enc x y z)]=some (.bool false,S):=by
 obtain⟨m,rfl⟩:∃m,n=m+1:=⟨n-1,by omega⟩
 have cs:=has20_x (n:=m) (d:=.nils) (l:=[]) (.inl ⟨rfl,rfl⟩) (by simp) t.typ (by omega)
 rw[List.any_nil]at cs
 have hp2:=ht.pure
 have o1:=Yv ht.hx
 have o2:=Yv ht.hy
 have o3:=Yv ht.hz
 simp only[D.one]at o1 o2 o3
 simp only[Trp.enc]at hp2 ⊢
 have:WO (Yb E (m+1) 137 [.agg [.int .i64 0,.nils,.int .i64 0,.int .i64 0,.int .i64 0,.int .i64 0,.int .i64 0,.nils],.agg [.str t.typ,.int .i64 t.sale,.int .i64 t.day,.int .i64 t.mnt,.int .i64 t.stops,.int .i64 t.trs,x,y,z]] []) λr T=>r=.bool false:=by
  refine Ye Tryz.func137 rfl (by decide) rfl 130 rfl (λa hal ha=>?_)
  obtain⟨h0,h1⟩:=aQ2 ha
  clear ha
  simp only[push_cast,hal,h0,h1,o1,o2,o3,cs,Tryz.f137,↓WX,simprocAttr,WY]
 obtain⟨_,T,hr,rfl⟩:=this
 exact λst S=>Yd rfl (by simp only[Yc,Yg,D.pure,hp2,Ua]) hr rfl
theorem Allows21_x {t:Trp} {x y z:D} (ht:t.Ok x y z) (o:Option Rul) (hb:∀r,o=some r->Yn r.when.enc<=1048576) (hn:3200010<=n):∀st S,Yi E (Yb E n) st S 82 [rulD o,.agg (t.enc x y z)]=some (.int .i64 (alwF o t),S):=by
 obtain⟨m,rfl⟩:∃m,n=m+1:=⟨n-1,by omega⟩
 have hp1:=Jl o
 have hp2:=ht.pure
 have o1:=Yv ht.hx
 have o2:=Yv ht.hy
 have o3:=Yv ht.hz
 simp only[D.one]at o1 o2 o3
 have:WO (Yb E (m+1) 82 [rulD o,.agg (t.enc x y z)] []) λr T=>r=.int .i64 (alwF o t):=by
  cases o with
  |none=>
   have ch:=Holds20_z (n:=m) ht (by omega)
   simp only[Trp.enc]at ch ⊢
   simp only[rulD,alwF]
   refine Ye Tryz.func82 rfl (by decide) rfl 9 rfl (λa hal ha=>?_)
   obtain⟨h0,h1⟩:=aQ2 ha
   clear ha
   simp only[push_cast,hal,h0,h1,o1,o2,o3,ch,Tryz.f82,↓WX,simprocAttr]
  |some r=>
   have hb:=hb r rfl
   have ch:=Holds20_x ht 1048576 m r.when hb (by omega) (by omega)
   simp only[rulD,alwF]
   generalize hol t r.when=b at*
   obtain⟨w,hw⟩:∃w,r.when=w:=⟨_,rfl⟩
   have hxe:Rul.enc r=.int .i64 r.num::(w.enc++[.sl 1 (r.comb.map encZ) r.combx,.int .i64 r.mins,.int .i64 r.maxs,.int .i64 r.chg,.int .i64 r.ref,.sl 2 (r.pcs.map encPc) r.pcx]):=by rw[<-hw];rfl
   rw[hw]at ch
   cases w with |mk k' l' lx' u' v' pf' pt' pd' t' tx'=>?_
   simp only[Cnd.enc,Uv,Vr]at hxe ch
   simp only[Trp.enc]at ch ⊢
   rw[hxe]
   refine Ye Tryz.func82 rfl (by decide) rfl 9 rfl (λa hal ha=>?_)
   obtain⟨h0,h1⟩:=aQ2 ha
   clear ha
   cases b
   ·simp only[push_cast,hal,h0,h1,o1,o2,o3,ch,Ui,Tryz.f82,↓WX,simprocAttr]
   ·simp only[push_cast,hal,h0,h1,o1,o2,o3,ch,Tryz.f82,↓WX,simprocAttr]
 obtain⟨_,T,hr,rfl⟩:=this
 exact λst S=>Yd rfl (by simp only[Yc,Yg,D.pure,hp1,hp2,Ua]) hr rfl
end
def ofsF (u:Int):Int->List Shf->Int
 |q,[]=>q
 |q,x::xs=>ofsF u (if x.tm<=u then x.off else q) xs
def zofs (o:Option Apt):Int:=match o with |none=>0 |some a=>a.off
def zshs (o:Option Apt):List Shf:=match o with |none=>[] |some a=>a.sh
def zshD (o:Option Apt):D:=match o with |none=>.nils |some a=>.sl 2 (a.sh.map Shf.enc) a.shx
theorem zsh_fls (o:Option Apt):FLs 2 Shf.enc (zshD o) (zshs o):=by
 cases o with
 |none=>exact .inl ⟨rfl,rfl⟩
 |some a=>exact .inr ⟨_,rfl⟩
def locF (o:Option Apt) (u:Int):Int:=IntKind.i64.wrap (u+ofsF u (zofs o) (zshs o))
def dayF (x:Int):Int:=if x.tmod 1440<0 then IntKind.i64.wrap (IntKind.i64.wrap (x.tdiv 1440)-1) else IntKind.i64.wrap (x.tdiv 1440)
def mntF (x:Int):Int:=if x.tmod 1440<0 then IntKind.i64.wrap (x.tmod 1440+1440) else x.tmod 1440
def stpN:List Wnt->Nat
 |a::b::r=>(if 1440<=IntKind.i64.wrap (b.dep-a.arr) then 1 else 0)+stpN (b::r)
 |_=>0
theorem stpN_snoc (y x:Wnt):∀l:List Wnt,stpN (l++[y,x])=stpN (l++[y])+(if 1440<=IntKind.i64.wrap (x.dep-y.arr) then 1 else 0)
 | []=>by simp[stpN]
 | [a]=>by simp[stpN,Nat.add_comm]
 |a::b::r=>by
  have:=stpN_snoc y x (b::r)
  simp only[Uv,stpN]at this ⊢
  rw[this,Nat.add_assoc]
theorem stpN_take {l:List Wnt} {i:Nat} {x y:Wnt} (hy:l[i]?=some y) (hx:l[i+1]?=some x):stpN (l.take (i+1+1))=stpN (l.take (i+1))+(if 1440<=IntKind.i64.wrap (x.dep-y.arr) then 1 else 0):=by
 rw[List.take_add_one,hx,List.take_add_one,hy,Vg]
 exact stpN_snoc y x _
theorem stpN_le:∀l:List Wnt,stpN l<=l.length-1
 | []=>Uk _
 | [_]=>Uk _
 |a::b::r=>by
  have:=stpN_le (b::r)
  simp only[stpN,Uu]at this ⊢
  split <;> omega
def tripF (p:Plc) (l:List Wnt) (s:ByteArray) (sale:Int):Trp:=
 let w:=l.headD ⟨ByteArray.mk #[],0,0,ByteArray.mk #[],ByteArray.mk #[],0,0,ByteArray.mk #[]⟩
 let x:=locF (p.aps.find? λa=>a.code.toList == w.fr.toList) w.dep
 ⟨s,sale,dayF x,mntF x,(stpN l:Int),((l.length-1-stpN l:Nat):Int),l.map Wnt.car,l.map Wnt.num,((citF p l).drop 1).take ((citF p l).length-1-1)⟩
theorem GL.flsN {α:Type} {sz:Nat} {enc:α->List D} {S:List Ob} {d:D} {l:List α} (h:GL sz enc S d l) (hp:Zc (l.map enc)=true) (m:Nat):∃d',Xp S (m+2) d=some d'/\FLs sz enc d' l:=by
 rcases h with ⟨rfl,rfl⟩ | ⟨k,rfl,hk⟩
 ·exact⟨_,rfl,.inl ⟨rfl,rfl⟩⟩
 ·have:=freeze_os (n:=m) (x:=false) hk hp
  rw[Uq]at this
  exact⟨_,this,.inr ⟨_,rfl⟩⟩
def Apart (d e:D):Prop:=∀k n k' n',d=.os k 0 n false->e=.os k' 0 n' false->k≠k'
theorem GL.keep {α:Type} {sz:Nat} {enc:α->List D} {S T:List Ob} {d:D} {l:List α} (h:GL sz enc S d l) (g:∀k n,d=.os k 0 n false->∀o,S[k]?=some o->T[k]?=some o):GL sz enc T d l:=by
 rcases h with h | ⟨k,h1,h2⟩
 ·exact .inl h
 ·exact .inr ⟨k,h1,g k _ h1 _ h2⟩
theorem two_app {T:List Ob} {d6 d7:D} {cs:List ByteArray} {ns:List Int} {z:Nat} {r0:List (List D)} (h2:T[2]?=some (.row z r0)) (hz:z≠1) (h6:GL 1 Cnd.encT T d6 cs) (h7:GL 1 encZ T d7 ns) (ha:Apart d6 d7) (l6:cs.length<=1000) (l7:ns.length<=1000) (c:ByteArray) (v:Int):
  ∃S1 S2,Zb Tryz.prog T 67 67 d6 (.sl 1 [[.str c]] true)=some (.os T.length 0 (cs.length+1) false,S1)/\Zb Tryz.prog S1 70 70 d7 (.sl 1 [[.int .i64 v]] true)=some (.os S1.length 0 (ns.length+1) false,S2)/\S1.length=T.length+1/\S2.length=T.length+2/\(∀(k sz:Nat) (es:List (List D)),sz≠1->T[k]?=some (.row sz es)->S1[k]?=some (.row sz es)/\S2[k]?=some (.row sz es))/\∀r,GL 1 Cnd.encT (S2.set 2 r) (.os T.length 0 (cs.length+1) false) (cs++[c])/\GL 1 encZ (S2.set 2 r) (.os S1.length 0 (ns.length+1) false) (ns++[v]):=by
 obtain⟨S1,a1,a2,a3,a4,a5⟩:=app_gl (t:=67) (e:=9) (z:=.str (ByteArray.mk #[])) (n:=0) (by kernel_rfl) (by kernel_rfl) (by kernel_rfl) rfl (Nat.le_of_ble_eq_true (by kernel_rfl)) h6 (by omega) c
 have h7':GL 1 encZ S1 d7 ns:=h7.keep λk n hk o ho=>a4 k o (λn' h=>ha k n' k n h hk rfl) ho
 obtain⟨S2,b1,b2,b3,b4,b5⟩:=app_gl (t:=70) (e:=3) (z:=.int .i64 0) (n:=0) (by kernel_rfl) (by kernel_rfl) (by kernel_rfl) rfl (Nat.le_of_ble_eq_true (by kernel_rfl)) h7' (by omega) v
 have hlt:2<T.length:=(Kr.1 h2).1
 refine⟨S1,S2,a1,b1,a3,by omega,λk sz es hs hk=>⟨a5 k sz es hs hk,b5 k sz es hs (a5 k sz es hs hk)⟩,λr=>⟨?_,?_⟩⟩
 ·refine a2.keep λk n hk o ho=>?_
  obtain⟨rfl,-⟩:=D.os.inj hk
  rw[Kt (by omega)]
  refine b4 _ _ (λn' h=>?_) ho
  subst h
  rcases h7 with ⟨h,-⟩ | ⟨k,h,hk⟩
  ·cases h
  ·obtain⟨rfl,-⟩:=D.os.inj h
   have:=(Kr.1 hk).1
   omega
 ·refine b2.keep λk n hk o ho=>?_
  obtain⟨rfl,-⟩:=D.os.inj hk
  rw[Kt (by omega)]
  exact ho
section
variable {n : Nat}
theorem split03_x (hn:1<=n) (x:Int):∀st S,Yi E (Yb E n) st S 139 [.int .i64 x]=some (.tup [.int .i64 (dayF x),.int .i64 (mntF x)],S):=by
 obtain⟨m,rfl⟩:∃m,n=m+1:=⟨n-1,by omega⟩
 have:WO (Yb E (m+1) 139 [.int .i64 x] []) λr T=>r=.tup [.int .i64 (dayF x),.int .i64 (mntF x)]:=by
  unfold dayF mntF
  refine Ye Tryz.func139 rfl (by decide) rfl 18 rfl (λa hal ha=>?_)
  have h0:=aQ1 ha
  clear ha
  by_cases c1:x.tmod 1440<0
  ·simp only[push_cast,hal,h0,c1,Tryz.f139,↓WX,simprocAttr]
  ·simp only[push_cast,hal,h0,c1,Tryz.f139,↓WX,simprocAttr]
 obtain⟨_,T,ho,rfl⟩:=this
 exact λst S=>Yd rfl rfl ho rfl
theorem offset05_x (hn:1048580<=n) (z:Int) {sd:D} {l:List Shf} (hs:FLs 2 Shf.enc sd l) (hl:l.length<=1048576) (u:Int):∀st S,Yi E (Yb E n) st S 191 [.agg [.int .i64 z,sd],.int .i64 u]=some (.int .i64 (ofsF u z l),S):=by
 obtain⟨m,rfl⟩:∃m,n=m+1:=⟨n-1,by omega⟩
 have hp:=Xr hs (Shfs_pure l)
 have ho:=Yv hs
 simp only[D.one]at ho
 have hy:=λS=>Jv (S:=S) Tryz.underlying55 hs
 simp only[push_cast]at hy
 have:WO (Yb E (m+1) 191 [.agg [.int .i64 z,sd],.int .i64 u] []) λr T=>r=.int .i64 (ofsF u z l):=by
  refine Ye Tryz.func191 rfl (by decide) rfl 31 rfl (λa hal ha=>?_)
  obtain⟨h0,h1⟩:=aQ2 ha
  clear ha
  simp only[push_cast,hal,h0,ho,↓WX,simprocAttr]
  refine Yk (λi a T=>(T=[Ob.row 2 [[.int .i64 z,sd]]]/\∃q:Int,a[5]?=some (.int .i64 q)/\ofsF u z l=ofsF u q (l.drop i))/\a.length=31/\a[1]?=some (.int .i64 u)/\a[2]?=some (.loc 0 0 0)/\a[6]?=some (.int .i64 i)) l.length ?_ (by omega) ?_
  ·simp only[push_cast,hal,h1,simprocAttr,WY]
   exact⟨_,rfl,rfl⟩
  rintro i a T hi ⟨⟨rfl,q,h5,e⟩,hal,h1,h2,h6⟩
  rcases Kw hi with hlt |rfl
  case inr=>
   rw[Vj,ofsF]at e
   rw[e]
   simp only[push_cast,hal,h2,h5,h6,hy,Tryz.f191,↓WX,simprocAttr,WY]
  have hltc:(i:Int)<l.length:=by omega
  obtain⟨x,hx⟩:∃x,l[i]?=some x:=⟨l[i],by simp⟩
  rw[Yu hx,ofsF]at e
  rcases hs with ⟨-,rfl⟩ | ⟨lx,rfl⟩
  ·cases hx
  by_cases c:x.tm<=u
  ·rw[if_pos c]at e
   simp(disch:=omega)only[push_cast,hal,h1,h2,h6,hltc,hlt,hx,c,Shf.enc,Yf,↓WX,simprocAttr,WY]
   exact⟨_,rfl,e⟩
  ·rw[if_neg c]at e
   simp(disch:=omega)only[push_cast,hal,h1,h2,h5,h6,hltc,hlt,hx,c,Shf.enc,Yf,↓WX,simprocAttr,WY]
   exact⟨_,rfl,e⟩
 obtain⟨_,T,ho,rfl⟩:=this
 exact λst S=>Yd rfl (by simp only[Yc,Yg,D.pure,hp,Ua]) ho rfl
theorem local05_x (hn:1048581<=n) (z:Int) {sd:D} {l:List Shf} (hs:FLs 2 Shf.enc sd l) (hl:l.length<=1048576) (u:Int):∀st S,Yi E (Yb E n) st S 140 [.agg [.int .i64 z,sd],.int .i64 u]=some (.int .i64 (IntKind.i64.wrap (u+ofsF u z l)),S):=by
 obtain⟨m,rfl⟩:∃m,n=m+1:=⟨n-1,by omega⟩
 have hq:=offset05_x (n:=m) (by omega) z hs hl u
 have hp:=Xr hs (Shfs_pure l)
 have ho:=Yv hs
 simp only[D.one]at ho
 have:WO (Yb E (m+1) 140 [.agg [.int .i64 z,sd],.int .i64 u] []) λr T=>r=.int .i64 (IntKind.i64.wrap (u+ofsF u z l)):=by
  refine Ye Tryz.func140 rfl (by decide) rfl 10 rfl (λa hal ha=>?_)
  obtain⟨h0,h1⟩:=aQ2 ha
  clear ha
  simp only[push_cast,hal,h0,h1,ho,hq,Tryz.f140,↓WX,simprocAttr]
 obtain⟨_,T,ho,rfl⟩:=this
 exact λst S=>Yd rfl (by simp only[Yc,Yg,D.pure,hp,Ua]) ho rfl
end
end Go.Proofs.YtaklebjoenophaaGreat.Dm
