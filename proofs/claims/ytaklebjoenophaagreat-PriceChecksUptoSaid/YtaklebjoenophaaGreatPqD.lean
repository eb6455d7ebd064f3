/-
  How often a tax is due, and the taxes of a journey: the reference, exactly (but for the percentage, which is a function).
  The sums of a price: the reference, exactly (but for the percentage, which is a function).
-/
import Derived.Test.YtaklebjoenophaaGreatPqC
set_option maxHeartbeats 64000000
set_option maxRecDepth 100000
set_option linter.unusedSimpArgs false
set_option linter.unusedVariables false
namespace Go.Proofs.YtaklebjoenophaaGreat.Dm
open Go Gw
def axF (pct:Int->Int->Int×Int) (k:Nat) (x:Tx) (fare:Int):Int×Int:=if x.kind=4/\k=1 then pct fare x.amount else (IntKind.i64.wrap (k*x.amount),0)
def taxF (pct:Int->Int->Int×Int) (p:Plc) (w:List Wnt) (s:ByteArray) (fare:Int):List Tx->List (ByteArray×Int)->List (ByteArray×Int)×Int
 | [],acc=>(acc,0)
 |x::xs,acc=>
  if (axF pct (timF p x w s) x fare).2=0 then
   if 1099511627776<(axF pct (timF p x w s) x fare).1 then ([],11)
   else if (axF pct (timF p x w s) x fare).1=0 then taxF pct p w s fare xs acc
   else taxF pct p w s fare xs (acc++[(x.code,(axF pct (timF p x w s) x fare).1)])
  else ([],(axF pct (timF p x w s) x fare).2)
section
variable {n : Nat}
theorem Times27_x (p:Plc) (hpa:p.aps.length<=1048576) (x:Tx) (hxf:x.free.length<=1048576) (l:List Wnt) (lx:Bool) (hl:l.length<=1048576) (s:ByteArray) (hn:1048800<=n):∀st S,Yi E (Yb E n) st S 147 [.agg p.enc,.agg x.enc,.sl 7 (l.map Wnt.seg) lx,.str s]=some (.int .i64 (timF p x l s),S):=by
 obtain⟨m,rfl⟩:∃m,n=m+1:=⟨n-1,by omega⟩
 have hp:Yp [.agg p.enc,.agg x.enc,.sl 7 (l.map Wnt.seg) lx,.str s]=true:=by simp only[Yc,Yg,D.pure,Yt,Tx_pure,Segs_pure,Ua]
 have cdu:=λ(i:Nat) (u:Wnt) (hu:l[i]?=some u)=>due27_x (n:=m) p hpa x l lx hl hu (by omega)
 have hsl:=sumD_le p x none l
 unfold timF
 obtain⟨q,hq⟩:∃q,q=x.free.any λy=>decide (y=s):=⟨_,rfl⟩
 rw[<-hq]
 obtain⟨N,hN⟩:∃N,N=sumD p x none l:=⟨_,rfl⟩
 rw[<-hN]at hsl ⊢
 simp only[Plc.enc,Tx.enc]at hp cdu ⊢
 have:WO (Yb E (m+1) 147 [.agg [.sl 5 (p.aps.map Apt.enc) p.apsx,.sl 3 (p.dts.map Dst.enc) p.dtsx],.agg [.str x.code,.int .i64 x.kind,.str x.land,.int .i64 x.amount,.int .i64 x.scope,.int .i64 x.transit,.sl 1 (x.free.map Cnd.encT) x.freex],.sl 7 (l.map Wnt.seg) lx,.str s] []) λr T=>r=.int .i64 ((if q=true then 0 else if x.kind<1∨4<x.kind then 0 else if x.kind=4 then min N 1 else N:Nat):Int):=by
  obtain⟨P0,hP0⟩:∃P0:List Ob,P0=[Ob.row 2 [[.sl 5 (p.aps.map Apt.enc) p.apsx,.sl 3 (p.dts.map Dst.enc) p.dtsx]],Ob.row 7 [[.str x.code,.int .i64 x.kind,.str x.land,.int .i64 x.amount,.int .i64 x.scope,.int .i64 x.transit,.sl 1 (x.free.map Cnd.encT) x.freex]]]:=⟨_,rfl⟩
  have g0:P0[0]?=some (Ob.row 2 [[.sl 5 (p.aps.map Apt.enc) p.apsx,.sl 3 (p.dts.map Dst.enc) p.dtsx]]):=by rw[hP0];rfl
  have g1:P0[1]?=some (Ob.row 7 [[.str x.code,.int .i64 x.kind,.str x.land,.int .i64 x.amount,.int .i64 x.scope,.int .i64 x.transit,.sl 1 (x.free.map Cnd.encT) x.freex]]):=by rw[hP0];rfl
  refine Ye Tryz.func147 rfl (by decide) rfl 53 rfl (λa hal ha=>?_)
  obtain⟨h0,h1,h2,h3⟩:=aQ4 ha
  clear ha
  refine Ya (λa V=>V=P0/\gQ a 53 (a[5]?=some (.loc 1 0 0)) [(2,.sl 7 (l.map Wnt.seg) lx),(3,.str s),(4,.loc 0 0 0)]) ?_ ?_
  ·simp only[push_cast,hal,h0,h1,h2,h3,↓WX,simprocAttr]
   rw[hP0]
  rintro a V ⟨rfl,hal,h2,h3,h4,h5⟩
  clear hP0
  refine Za (λa W=>(W=V/\q=false)/\gQ a 53 (a[5]?=some (.loc 1 0 0)) [(2,.sl 7 (l.map Wnt.seg) lx),(4,.loc 0 0 0)]) ?_ ?_
  ·simp only[push_cast,↓WX,simprocAttr]
   refine Yk (λi a T=>(T=V/\q=(x.free.drop i).any λy=>decide (y=s))/\a.length=53/\a[2]?=some (.sl 7 (l.map Wnt.seg) lx)/\a[3]?=some (.str s)/\a[4]?=some (.loc 0 0 0)/\a[5]?=some (.loc 1 0 0)/\a[9]?=some (.int .i64 i)) x.free.length ?_ (by omega) ?_
   ·simp only[push_cast,hal,h2,h3,h4,h5,simprocAttr,WY]
    exact hq
   clear hq
   rintro i a T hi ⟨⟨rfl,e⟩,hal,h2,h3,h4,h5,h9⟩
   rcases Kw hi with hlt |hie
   case inr=>
    rw[hie,Vj,List.any_nil]at e
    subst hie
    simp only[push_cast,hal,h2,h4,h5,h9,g1,↓WX,simprocAttr,WY]
    exact e
   have hltc:(i:Int)<x.free.length:=by omega
   obtain⟨y,hy⟩:∃y,x.free[i]?=some y:=⟨x.free[i],by simp⟩
   rw[Yu hy,List.any_cons]at e
   cases e1:decide (y=s)
   ·rw[e1,Bool.false_or]at e
    simp(disch:=omega)only[push_cast,hal,h2,h3,h4,h5,h9,g1,hltc,hlt,hy,e1,Yo,Cnd.encT,Yf,↓WX,simprocAttr,WY]
    exact e
   ·rw[e1,Bool.true_or]at e
    subst e
    simp only[if_true]
    simp only[push_cast,hal,h3,h5,h9,g1,hltc,hy,e1,Yo,Cnd.encT,Tryz.f147,↓WX,simprocAttr,WY]
  rintro a W ⟨⟨rfl,rfl⟩,hal,h2,h4,h5⟩
  simp only[Ui,if_false]
  by_cases k1:x.kind<1
  ·rw[if_pos (.inl k1)]
   simp only[push_cast,hal,h5,g1,k1,Tryz.f147,↓WX,simprocAttr]
  by_cases k2:4<x.kind
  ·rw[if_pos (.inr k2)]
   simp only[push_cast,Vn,hal,h5,g1,k1,k2,Tryz.f147,↓WX,simprocAttr]
  rw[if_neg (λh=>h.elim k1 k2)]
  refine Ya (λa V=>V=W/\gQ a 53 (a[5]?=some (.loc 1 0 0)) [(2,.sl 7 (l.map Wnt.seg) lx),(4,.loc 0 0 0)]) ?_ ?_
  ·simp only[push_cast,Vn,hal,h2,h4,h5,g1,k1,k2,↓WX,simprocAttr]
  rintro a V ⟨rfl,hal,h2,h4,h5⟩
  refine Ya (λa W=>W=V/\gQ a 53 (a[10]?=some (.int .i64 0)) [(2,.sl 7 (l.map Wnt.seg) lx),(4,.loc 0 0 0),(5,.loc 1 0 0)]) ?_ ?_
  ·simp only[push_cast,hal,h2,h4,h5,↓WX,simprocAttr]
  rintro a W ⟨rfl,hal,h2,h4,h5,h10⟩
  refine Ya (λa V=>V=W/\gQ a 53 (a[10]?=some (.int .i64 N)) [(5,.loc 1 0 0)]) ?_ ?_
  ·simp only[push_cast,↓WX,simprocAttr]
   refine Yk (λi a T=>(T=W/\∃k:Nat,a[10]?=some (.int .i64 k)/\k<=i/\N=k+sumD p x (if i=0 then none else l[i-1]?) (l.drop i))/\a.length=53/\a[2]?=some (.sl 7 (l.map Wnt.seg) lx)/\a[4]?=some (.loc 0 0 0)/\a[5]?=some (.loc 1 0 0)/\a[11]?=some (.int .i64 i)) l.length ?_ (by omega) ?_
   ·simp only[push_cast,hal,h2,h4,h5,h10,simprocAttr,WY]
    exact⟨0,rfl,Uk _,by rw[Nat.zero_add];exact hN⟩
   clear hN
   rintro i a T hi ⟨⟨rfl,k,h10,hki,e⟩,hal,h2,h4,h5,h11⟩
   rcases Kw hi with hlt |rfl
   case inr=>
    rw[Vj,sumD,Nat.add_zero]at e
    subst e
    simp only[push_cast,hal,h2,h5,h10,h11,↓WX,simprocAttr,WY]
   have hltc:(i:Int)<l.length:=by omega
   obtain⟨u,hu⟩:∃u,l[i]?=some u:=⟨l[i],by simp⟩
   have cdu:=cdu i u hu
   have hdl:=dueF_le p x (if i=0 then none else l[i-1]?) u l[i+1]?
   rw[Yu hu,sumD]at e
   have hhd:(l.drop (i+1)).head? =l[i+1]? :=by rw[List.head?_drop]
   rw[hhd]at e
   generalize dueF p x (if i=0 then none else l[i-1]?) u l[i+1]?=dd at*
   simp(disch:=omega)only[push_cast,hal,h2,h4,h5,h10,h11,g0,g1,hlt,hltc,cdu,Yf,↓WX,simprocAttr,WY]
   exact⟨k+dd,by push_cast <;> rfl,by omega,by first |(rw[show i+1-1=i by omega,hu,Nat.add_assoc];exact e) |(rw[hu,Nat.add_assoc];exact e)⟩
  rintro a V ⟨rfl,hal,h5,h10⟩
  by_cases k4:x.kind=4
  ·rw[if_pos k4]
   have hmin:((min N 1:Nat):Int)=min (N:Int) 1:=by omega
   rw[hmin]
   simp only[push_cast,hal,h5,h10,g1,k4,Tryz.f147,↓WX,simprocAttr,WY]
   split <;> omega
  ·rw[if_neg k4]
   simp only[push_cast,hal,h5,h10,g1,k4,Tryz.f147,↓WX,simprocAttr,WY]
 obtain⟨_,T,ho,rfl⟩:=this
 exact λst S=>Yd rfl hp ho rfl
theorem Of27_d (pct:Int->Int->Int×Int) (hpc:∀x y st S,Yi E (Yb E n) st S 143 [.int .i64 x,.int .i64 y]=some (.tup [.int .i64 (pct x y).1,.int .i64 (pct x y).2],S)) (p:Plc) (hpa:p.aps.length<=1048576) (l:List Tx) (lx:Bool) (hl:l.length<=90000) (hlf:∀x∈l,x.free.length<=1048576) (w:List Wnt) (wx:Bool) (hw:w.length<=1048576) (s:ByteArray) (fare:Int) (hn:1048800<=n):
  WO (Yb E (n+1) 93 [.agg p.enc,.sl 7 (l.map Tx.enc) lx,.sl 7 (w.map Wnt.seg) wx,.str s,.int .i64 fare] []) λr T=>∃d,r=.tup [d,.int .i64 (taxF pct p w s fare l []).2]/\GL 2 Jf T d (taxF pct p w s fare l []).1:=by
 have cti:=λx hx=>Times27_x (n:=n) p hpa x (hlf x hx) w wx hw s (by omega)
 have ap:∀ {T:List Ob} {d:D} {cs:List (ByteArray×Int)},GL 2 Jf T d cs->cs.length<=100000->∀c:ByteArray×Int,∃S',Zb Tryz.prog T 39 39 d (.sl 2 [[.str c.1,.int .i64 c.2]] true)=some (.os T.length 0 (cs.length+1) false,S')/\GL 2 Jf S' (.os T.length 0 (cs.length+1) false) (cs++[c])/\S'.length=T.length+1/\(∀k o,(∀n,d=.os k 0 n false->False)->T[k]?=some o->S'[k]?=some o):=λh hc c=>by
  obtain⟨S',a1,a2,a3,a4,-⟩:=app_gl (t:=39) (e:=93) (z:=.agg [.str (ByteArray.mk #[]),.int .i64 0]) (n:=1) (by kernel_rfl) (by kernel_rfl) (by kernel_rfl) rfl (Nat.le_of_ble_eq_true (by kernel_rfl)) h hc c
  exact⟨S',a1,a2,a3,a4⟩
 obtain⟨q,hq⟩:∃q,q=taxF pct p w s fare l []:=⟨_,rfl⟩
 rw[<-hq]
 simp only[Plc.enc]at cti ⊢
 obtain⟨R0,hR0⟩:∃R0,R0=Ob.row 2 [[.sl 5 (p.aps.map Apt.enc) p.apsx,.sl 3 (p.dts.map Dst.enc) p.dtsx]]:=⟨_,rfl⟩
 refine Ye Tryz.func93 rfl (by decide) rfl 76 rfl (λa hal ha=>?_)
 obtain⟨h0,h1,h2,h3,h4⟩:=aQ5 ha
 clear ha
 refine Ya (λa V=>V=[R0]/\gQ a 76 (a[11]?=some (.int .i64 0)) [(1,.sl 7 (l.map Tx.enc) lx),(2,.sl 7 (w.map Wnt.seg) wx),(3,.str s),(4,.int .i64 fare),(5,.loc 0 0 0),(10,.nils)]) ?_ ?_
 ·simp only[push_cast,hal,h0,h1,h2,h3,h4,↓WX,simprocAttr]
  rw[hR0]
 rintro a V ⟨rfl,hal,h1,h2,h3,h4,h5,h10,h11⟩
 refine Ya (λa V=>V=[R0]/\gQ a 76 (a[12]?=some (.nils)) [(1,.sl 7 (l.map Tx.enc) lx),(2,.sl 7 (w.map Wnt.seg) wx),(3,.str s),(4,.int .i64 fare),(5,.loc 0 0 0)]) ?_ ?_
 ·simp only[push_cast,hal,h1,h2,h3,h4,h5,↓WX,simprocAttr]
 rintro a V ⟨hV,hal,h1,h2,h3,h4,h5,h12⟩
 refine Za (λa T=>(∃d cs,a[12]?=some d/\GL 2 Jf T d cs/\q=(cs,0))/\a.length=76/\a[5]?=some (.loc 0 0 0)) ?_ ?_
 ·simp only[push_cast,↓WX,simprocAttr]
  refine Yk (λi a T=>(∃d cs,a[12]?=some d/\GL 2 Jf T d cs/\(∀n,d=.os 0 0 n false->False)/\T[0]?=some R0/\1<=T.length/\cs.length<=i/\q=taxF pct p w s fare (l.drop i) cs)/\a.length=76/\a[1]?=some (.sl 7 (l.map Tx.enc) lx)/\a[2]?=some (.sl 7 (w.map Wnt.seg) wx)/\a[3]?=some (.str s)/\a[4]?=some (.int .i64 fare)/\a[5]?=some (.loc 0 0 0)/\a[13]?=some (.int .i64 i)) l.length ?_ (by omega) ?_
  ·simp only[push_cast,hal,h1,h2,h3,h4,h5,h12,simprocAttr,WY]
   subst hV
   exact⟨_,[],rfl,GL.nil,(λn h=>by cases h),rfl,Uk _,Uk _,hq⟩
  clear hV hq
  rintro i a T hi ⟨⟨d,cs,h12,hg,hd,g0,hTl,hcl,e⟩,hal,h1,h2,h3,h4,h5,h13⟩
  rw[hR0]at g0
  rcases Kw hi with hlt |rfl
  case inr=>
   rw[Vj,taxF]at e
   simp only[push_cast,hal,h1,h5,h12,h13,↓WX,simprocAttr,WY]
   exact⟨_,_,rfl,hg,e⟩
  have hltc:(i:Int)<l.length:=by omega
  obtain⟨x,hx⟩:∃x,l[i]?=some x:=⟨l[i],by simp⟩
  have ct:=cti x (Kx hx)
  rw[Yu hx,taxF]at e
  obtain⟨S',a1,a2,a3,a4⟩:=ap hg (by omega) (x.code,(axF pct (timF p x w s) x fare).1)
  have g0':=a4 _ _ hd g0
  unfold axF at e a1 a2
  generalize timF p x w s=k at*
  simp only[Tx.enc]at ct
  have hcp:=hpc fare x.amount
  obtain⟨am,hfa⟩:∃am,am=(if x.kind=4/\k=1 then pct fare x.amount else (IntKind.i64.wrap (k*x.amount),0)):=⟨_,rfl⟩
  rw[<-hfa]at e a1 a2
  refine Ya (λa V=>V=T/\gQ a 76 (a[13]?=some (.int .i64 i)) [(1,.sl 7 (l.map Tx.enc) lx),(2,.sl 7 (w.map Wnt.seg) wx),(3,.str s),(4,.int .i64 fare),(5,.loc 0 0 0),(12,d)]) ?_ ?_
  ·simp only[push_cast,hal,h1,h2,h3,h4,h5,h12,h13,hltc,↓WX,simprocAttr]
  rintro a V ⟨rfl,hal,h1,h2,h3,h4,h5,h12,h13⟩
  rw[Zx,Yx]
  refine Ya (λa W=>W=V/\gQ a 76 (a[14]?=some (.int .i64 k)) [(1,.sl 7 (l.map Tx.enc) lx),(2,.sl 7 (w.map Wnt.seg) wx),(3,.str s),(4,.int .i64 fare),(5,.loc 0 0 0),(12,d),(13,.int .i64 i)]) ?_ ?_
  ·simp only[push_cast,hal,h1,h2,h3,h4,h5,h12,h13,g0,hx,ct,Tx.enc,↓WX,simprocAttr]
  rintro a W ⟨rfl,hal,h1,h2,h3,h4,h5,h12,h13,h14⟩
  refine Ya (λa V=>V=W/\gQ a 76 (a[16]?=some (.int .i64 0)) [(1,.sl 7 (l.map Tx.enc) lx),(2,.sl 7 (w.map Wnt.seg) wx),(3,.str s),(4,.int .i64 fare),(5,.loc 0 0 0),(12,d),(13,.int .i64 i),(14,.int .i64 k),(15,.int .i64 (IntKind.i64.wrap (k*x.amount)))]) ?_ ?_
  ·simp only[push_cast,hal,h1,h2,h3,h4,h5,h12,h13,h14,hx,Tx.enc,↓WX,simprocAttr]
  rintro a V ⟨rfl,hal,h1,h2,h3,h4,h5,h12,h13,h14,h15,h16⟩
  refine Ya (λa W=>W=V/\gQ a 76 (a[16]?=some (.int .i64 am.2)) [(1,.sl 7 (l.map Tx.enc) lx),(2,.sl 7 (w.map Wnt.seg) wx),(3,.str s),(4,.int .i64 fare),(5,.loc 0 0 0),(12,d),(13,.int .i64 i),(15,.int .i64 am.1)]) ?_ ?_
  ·by_cases k4:x.kind=4
   ·by_cases k1:k=1
    ·rw[if_pos ⟨k4,k1⟩]at hfa
     have k1':(k:Int)=1:=by omega
     subst hfa
     simp only[push_cast,hal,h1,h2,h3,h4,h5,h12,h13,h14,hx,k4,k1',hcp,Tx.enc,↓WX,simprocAttr,WY]
    ·rw[if_neg (λh=>k1 h.2)]at hfa
     have k1':decide ((k:Int)=1)=false:=Ud (by omega)
     subst hfa
     simp only[push_cast,hal,h1,h2,h3,h4,h5,h12,h13,h14,h15,h16,hx,k4,k1',Tx.enc,↓WX,simprocAttr,WY]
   ·rw[if_neg (λh=>k4 h.1)]at hfa
    subst hfa
    simp only[push_cast,hal,h1,h2,h3,h4,h5,h12,h13,h15,h16,hx,k4,Tx.enc,↓WX,simprocAttr,WY]
  clear hfa hcp
  rintro a W ⟨rfl,hal,h1,h2,h3,h4,h5,h12,h13,h15,h16⟩
  obtain⟨am,ae⟩:=am
  dsimp only at*
  by_cases c1:ae=0
  case neg=>
   rw[if_neg c1]at e
   subst e
   simp only[push_cast,Vo,hal,h5,h16,c1,Tryz.f93,↓WX,simprocAttr,WY]
   exact⟨_,rfl,GL.nil⟩
  rw[if_pos c1]at e
  subst c1
  by_cases c2:1099511627776<am
  ·rw[if_pos c2]at e
   subst e
   simp only[push_cast,Vn,Vp,hal,h5,h15,h16,c2,Tryz.f93,↓WX,simprocAttr,WY]
   exact⟨_,rfl,GL.nil⟩
  rw[if_neg c2]at e
  by_cases c3:am=0
  ·rw[if_pos c3]at e
   simp(disch:=omega)only[push_cast,Vn,Vp,hal,h1,h2,h3,h4,h5,h12,h13,h15,h16,c3,hlt,Yf,↓WX,simprocAttr,WY]
   exact⟨_,_,rfl,hg,hd,by rw[hR0];exact g0,hTl,by omega,e⟩
  ·rw[if_neg c3]at e
   simp(disch:=omega)only[push_cast,Vn,Vp,Vo,hal,h1,h2,h3,h4,h5,h12,h13,h15,h16,c2,c3,hlt,hx,a1,Tx.enc,Yf,↓WX,simprocAttr,WY]
   exact⟨_,_,rfl,a2,λn h=>by have:=(D.os.inj h).1;omega,by rw[hR0];exact g0',by omega,by rw[Ku,List.length_singleton];omega,e⟩
 clear hV
 rintro a T ⟨⟨d,cs,h12,hg,rfl⟩,hal,h5⟩
 simp only[push_cast,hal,h12,Tryz.f93,↓WX,simprocAttr]
 exact⟨_,rfl,hg⟩
theorem Of27_x (pct:Int->Int->Int×Int) (hpc:∀x y st S,Yi E (Yb E n) st S 143 [.int .i64 x,.int .i64 y]=some (.tup [.int .i64 (pct x y).1,.int .i64 (pct x y).2],S)) (p:Plc) (hpa:p.aps.length<=1048576) (l:List Tx) (lx:Bool) (hl:l.length<=90000) (hlf:∀x∈l,x.free.length<=1048576) (w:List Wnt) (wx:Bool) (hw:w.length<=1048576) (s:ByteArray) (fare:Int) (hn:1048800<=n):
  ∃d,FLs 2 Jf d (taxF pct p w s fare l []).1/\∀st S,Yi E (Yb E (n+1)) st S 93 [.agg p.enc,.sl 7 (l.map Tx.enc) lx,.sl 7 (w.map Wnt.seg) wx,.str s,.int .i64 fare]=some (.tup [d,.int .i64 (taxF pct p w s fare l []).2],S):=by
 obtain⟨_,T,ho,d,rfl,hg⟩:=Of27_d pct hpc p hpa l lx hl hlf w wx hw s fare hn
 obtain⟨d',hf,hd⟩:=hg.flsN (Ko _) 37
 exact⟨d',hd,λst S=>Yd rfl (by simp only[Yc,Yg,D.pure,Yt,Jq,Segs_pure,Ua]) ho (freeze_tup2 hf)⟩
end
def famF:List Int->Int->Option Int
 | [],f=>some f
 |x::xs,f=>if x>1099511627776∨IntKind.i64.wrap (f+x)>1099511627776 then none else famF xs (IntKind.i64.wrap (f+x))
def sumsF (pct:Int->Int->Int×Int) (p:Plc) (t:Trf) (w:List Wnt) (s:ByteArray) (l:List Prt):Option (Int×List (ByteArray×Int)×Int):=
 match famF (l.map Prt.am) 0 with
 |none=>none
 |some f=>if (taxF pct p w s f t.taxes []).2=0 then match famF ((taxF pct p w s f t.taxes []).1.map (·.2)) f with
   |none=>none
   |some u=>some (f,(taxF pct p w s f t.taxes []).1,u)
  else none
theorem taxF_len {pct:Int->Int->Int×Int} {p:Plc} {w:List Wnt} {s:ByteArray} {fare:Int}:∀(l:List Tx) (acc:List (ByteArray×Int)),(taxF pct p w s fare l acc).1.length<=acc.length+l.length
 | [],acc=>Uk _
 |x::xs,acc=>by
  unfold taxF
  rw[Uu]
  split
  ·split
   ·exact Vt _
   ·split
    ·have:=taxF_len (pct:=pct) (p:=p) (w:=w) (s:=s) (fare:=fare) xs acc;omega
    ·have:=taxF_len (pct:=pct) (p:=p) (w:=w) (s:=s) (fare:=fare) xs (acc++[(x.code,(axF pct (timF p x w s) x fare).1)])
     rw[Ku,List.length_singleton]at this
     omega
  ·exact Vt _
theorem sumsF_len {pct:Int->Int->Int×Int} {p:Plc} {t:Trf} {w:List Wnt} {s:ByteArray} {l:List Prt} {z:Int×List (ByteArray×Int)×Int} (h:sumsF pct p t w s l=some z):z.2.1.length<=t.taxes.length:=by
 unfold sumsF at h
 split at h
 ·cases h
 ·rename_i f _
  split at h
  ·split at h
   ·cases h
   ·obtain rfl:=Kz h
    have:=taxF_len (pct:=pct) (p:=p) (w:=w) (s:=s) (fare:=f) t.taxes []
    simpa using this
  ·cases h
section
variable {n : Nat}
theorem segs28_d (l:List Wnt) (lx:Bool) (hl:l.length<=1000) (hn:2000<=n):WO (Yb E (n+1) 94 [.sl 8 (l.map Wnt.enc) lx] []) λr T=>GL 7 Wnt.seg T r l:=by
 have ap:∀ {T:List Ob} {d:D} {cs:List Wnt},GL 7 Wnt.seg T d cs->cs.length<=100000->∀c:Wnt,∃S',Zb Tryz.prog T 152 152 d (.sl 7 [c.seg] true)=some (.os T.length 0 (cs.length+1) false,S')/\GL 7 Wnt.seg S' (.os T.length 0 (cs.length+1) false) (cs++[c]):=λh hc c=>by
  obtain⟨S',a1,a2,-⟩:=app_gl (t:=152) (e:=75) (z:=.agg [.str (ByteArray.mk #[]),.int .i64 0,.int .i64 0,.str (ByteArray.mk #[]),.str (ByteArray.mk #[]),.int .i64 0,.int .i64 0]) (n:=6) (by kernel_rfl) (by kernel_rfl) (by kernel_rfl) rfl (Nat.le_of_ble_eq_true (by kernel_rfl)) h hc c
  exact⟨S',a1,a2⟩
 refine Ye Tryz.func94 rfl (by decide) rfl 20 rfl (λa hal ha=>?_)
 have h0:=aQ1 ha
 clear ha
 simp only[push_cast,↓WX,simprocAttr]
 refine Yk (λi a T=>(∃d,a[3]?=some d/\GL 7 Wnt.seg T d (l.take i))/\a.length=20/\a[0]?=some (.sl 8 (l.map Wnt.enc) lx)/\a[4]?=some (.int .i64 i)) l.length ?_ (by omega) ?_
 ·simp only[push_cast,hal,h0,simprocAttr,WY]
  exact⟨_,rfl,GL.nil⟩
 rintro i a T hi ⟨⟨d,h3,hg⟩,hal,h0,h4⟩
 rcases Kw hi with hlt |rfl
 case inr=>
  rw[Vi]at hg
  simp only[push_cast,hal,h0,h3,h4,Tryz.f94,↓WX,simprocAttr,WY]
  exact hg
 have hltc:(i:Int)<l.length:=by omega
 obtain⟨x,hx⟩:∃x,l[i]?=some x:=⟨l[i],by simp⟩
 have hti:(l.take (i+1))=l.take i++[x]:=by rw[List.take_add_one,hx];rfl
 obtain⟨S',a1,a2⟩:=ap hg (by rw[Ve];omega) x
 simp only[Wnt.seg]at a1
 simp(disch:=omega)only[push_cast,hal,h0,h3,h4,hlt,hltc,hx,a1,Wnt.enc,Yf,↓WX,simprocAttr,WY]
 exact⟨_,rfl,by rw[hti];first |exact a2 |simpa only[List.length_map]using a2⟩
theorem segs28_x (l:List Wnt) (lx:Bool) (hl:l.length<=1000) (hl0:l≠[]) (hn:2001<=n):∃x,∀st S,Yi E (Yb E n) st S 94 [.sl 8 (l.map Wnt.enc) lx]=some (.sl 7 (l.map Wnt.seg) x,S):=by
 obtain⟨m,rfl⟩:∃m,n=m+1:=⟨n-1,by omega⟩
 obtain⟨d,T,ho,hg⟩:=segs28_d (n:=m) l lx hl (by omega)
 obtain⟨d',hf,hd⟩:=hg.flsN (Segs_pure _) 38
 rcases hd with ⟨-,h⟩ | ⟨x,rfl⟩
 ·exact (hl0 h).elim
 ·exact⟨x,λst S=>Yd rfl (by simp only[Yc,Yg,D.pure,Jd,Ua]) ho hf⟩
theorem sums28_d {S:List Ob} (pct:Int->Int->Int×Int) (hpc:∀x y st S,Yi E (Yb E n) st S 143 [.int .i64 x,.int .i64 y]=some (.tup [.int .i64 (pct x y).1,.int .i64 (pct x y).2],S)) (p:Plc) (hpa:p.aps.length<=1048576) (t:Trf) (htl:t.taxes.length<=90000) (hlf:∀x∈t.taxes,x.free.length<=1048576) (w:List Wnt) (wx:Bool) (hw:w.length<=1000) (hw0:w≠[]) (s:ByteArray) {d:D} {l:List Prt} (h:LQ 4 Prt.enc S d l) (hl:l.length<=900) (hn:1048900<=n):
  WO (Yb E (n+1+1) 36 [.agg p.enc,.agg t.enc,.sl 8 (w.map Wnt.enc) wx,.str s,d] S) λr T=>(∃J,T=S++J)/\match sumsF pct p t w s l with
   |none=>∃q,q=.agg [.nils,.nils,.nils,.int .i64 0,.int .i64 0]/\r=.tup [q,.bool false]
   |some z=>∃dt,r=.tup [.agg [d,.nils,dt,.int .i64 z.1,.int .i64 z.2.2],.bool true]/\FLs 2 Jf dt z.2.1:=by
 have hy:=lq_len Tryz.underlying37 h
 simp only[push_cast]at hy
 have od:=h.one
 have oc:d.cells=[d]:=by rcases h with ⟨rfl,-⟩ | ⟨x,rfl,-⟩ | ⟨k,rfl,-⟩ <;> rfl
 simp only[D.one]at od
 simp only[D.cells]at oc
 obtain⟨wy,csg⟩:=segs28_x (n:=n+1) w wx hw hw0 (by omega)
 have cof:=λf=>Of27_x pct hpc p hpa t.taxes t.tx htl hlf w wy (by omega) s f (by omega)
 obtain⟨q,hq⟩:∃q,q=sumsF pct p t w s l:=⟨_,rfl⟩
 rw[<-hq]
 unfold sumsF at hq
 simp only[Plc.enc,Trf.enc]at cof ⊢
 obtain⟨R0,hR0⟩:∃R0,R0=Ob.row 2 [[.sl 5 (p.aps.map Apt.enc) p.apsx,.sl 3 (p.dts.map Dst.enc) p.dtsx]]:=⟨_,rfl⟩
 obtain⟨R1,hR1⟩:∃R1,R1=Ob.row 4 [[.sl 9 (t.fares.map Far.enc) t.fx,.sl 15 (t.rules.map Rul.enc) t.rx,.sl 3 (t.rous.map Rou.enc) t.ox,.sl 7 (t.taxes.map Tx.enc) t.tx]]:=⟨_,rfl⟩
 obtain⟨R2,hR2⟩:∃R2,R2=Ob.row 5 [[.nils,.nils,.nils,.int .i64 0,.int .i64 0]]:=⟨_,rfl⟩
 refine Ye Tryz.func36 rfl (by decide) rfl 94 rfl (λa hal ha=>?_)
 obtain⟨h0,h1,h2,h3,h4⟩:=aQ5 ha
 clear ha
 refine Ya (λa V=>V=S++[R0]++[R1]++[R2]/\gQ a 94 (a[10]?=some (.loc (S.length+2) 0 0)) [(2,.sl 8 (w.map Wnt.enc) wx),(3,.str s),(4,d),(5,.loc S.length 0 0),(6,.loc (S.length+1) 0 0)]) ?_ ?_
 ·simp only[push_cast,hal,h0,h1,h2,h3,h4,hR0,hR1,hR2,Ku,Uu,↓WX,simprocAttr]
 rintro a V ⟨hV,hal,h2,h3,h4,h5,h6,h10⟩
 refine Ya (λa W=>W=V++[Ob.row 5 [[d,.nils,.nils,.int .i64 0,.int .i64 0]]]/\gQ a 94 (a[12]?=some (.loc V.length 0 0)) [(2,.sl 8 (w.map Wnt.enc) wx),(3,.str s),(4,d),(5,.loc S.length 0 0),(6,.loc (S.length+1) 0 0),(10,.loc (S.length+2) 0 0)]) ?_ ?_
 ·simp only[push_cast,hal,h2,h3,h4,h5,h6,h10,od,oc,List.all_cons,List.all_nil,Yl,Yq,Uu,↓WX,simprocAttr]
 rintro a W ⟨hW,hal,h2,h3,h4,h5,h6,h10,h12⟩
 have hVl:V.length=S.length+3:=by rw[hV];simp
 rw[hVl]at h12
 have gP:W[S.length]?=some (Ob.row 2 [[.sl 5 (p.aps.map Apt.enc) p.apsx,.sl 3 (p.dts.map Dst.enc) p.dtsx]]):=by rw[hW,hV,hR0];exact Ym (Ym end0)
 have gT:W[S.length+1]?=some (Ob.row 4 [[.sl 9 (t.fares.map Far.enc) t.fx,.sl 15 (t.rules.map Rul.enc) t.rx,.sl 3 (t.rous.map Rou.enc) t.ox,.sl 7 (t.taxes.map Tx.enc) t.tx]]):=by rw[hW,hV,hR1];exact Ym (Ym end1)
 have gZ:W[S.length+2]?=some (Ob.row 5 [[.nils,.nils,.nils,.int .i64 0,.int .i64 0]]):=by
  have:(S++[R0]++[R1]).length=S.length+2:=by simp
  rw[hW,hV,hR2,<-this]
  exact Ym Yl
 have gQ:W[S.length+3]?=some (Ob.row 5 [[d,.nils,.nils,.int .i64 0,.int .i64 0]]):=by rw[hW,<-hVl];exact Yl
 have hWl:W.length=S.length+4:=by rw[hW,Ku,hVl];rfl
 have hWS:∃J,W=S++J:=⟨[R0]++([R1]++([R2]++[Ob.row 5 [[d,.nils,.nils,.int .i64 0,.int .i64 0]]])),by rw[hW,hV];simp only[Vg]⟩
 have h:=h.ext (T:=W) (by obtain⟨J,e⟩:=hWS;rw[e];exact Jx)
 clear hV hW hVl hR0 hR1 hR2 R0 R1 R2
 -- the sums of the fares
 have key:∀(r:Ob),∃J,W.set (S.length+3) r=S++J:=λr=>by
  obtain⟨J,e⟩:=hWS
  exact⟨J.set 3 r,by rw[e,List.set_append_right _ _ (by omega),Nat.add_sub_cancel_left]⟩
 have keyZ:∀(r r':Ob),∃J,(W.set (S.length+3) r).set (S.length+2) r'=S++J:=λr r'=>by
  obtain⟨J,e⟩:=key r
  exact⟨J.set 2 r',by rw[e,List.set_append_right _ _ (by omega),Nat.add_sub_cancel_left]⟩
 have z2:∀r,(W.set (S.length+3) r)[S.length+2]?=some (Ob.row 5 [[.nils,.nils,.nils,.int .i64 0,.int .i64 0]]):=λr=>by rw[Kt (by omega)];exact gZ
 have z3:∀r,(W.set (S.length+3) r)[S.length+3]?=some r:=λr=>Uf (by omega)
 have zP:∀r,(W.set (S.length+3) r)[S.length]?=some (Ob.row 2 [[.sl 5 (p.aps.map Apt.enc) p.apsx,.sl 3 (p.dts.map Dst.enc) p.dtsx]]):=λr=>by rw[Kt (by omega)];exact gP
 have zT:∀r,(W.set (S.length+3) r)[S.length+1]?=some (Ob.row 4 [[.sl 9 (t.fares.map Far.enc) t.fx,.sl 15 (t.rules.map Rul.enc) t.rx,.sl 3 (t.rous.map Rou.enc) t.ox,.sl 7 (t.taxes.map Tx.enc) t.tx]]):=λr=>by rw[Kt (by omega)];exact gT
 have lW:∀r,(W.set (S.length+3) r).length=S.length+4:=λr=>by rw[Ux,hWl]
 have hlk:∀r,LQ 4 Prt.enc (W.set (S.length+3) r) d l:=λr=>by
  rcases h with h | ⟨x,h,-⟩ | ⟨k,h,hk⟩
  ·exact .inl h
  ·exact FLs.lq (.inr ⟨x,h⟩)
  ·have hk:=hk []
   rw[Ur]at hk
   have hne:S.length+3≠k:=λe=>by
    subst e
    rw[gQ]at hk
    injection hk with hk
    injection hk with hk _
    cases hk
   have hk2:(W.set (S.length+3) r)[k]?=some (.row 4 (l.map Prt.enc)):=by rw[Kt hne];exact hk
   exact .inr (.inr ⟨k,h,λJ=>Ym hk2⟩)
 have hW3:W=W.set (S.length+3) (Ob.row 5 [[d,.nils,.nils,.int .i64 0,.int .i64 0]]):=by
  apply List.ext_getElem?
  intro i
  by_cases e:S.length+3=i
  ·subst e
   rw[z3,gQ]
  ·rw[Kt e]
 obtain⟨fo,hfo⟩:∃fo,fo=famF (l.map Prt.am) 0:=⟨_,rfl⟩
 rw[<-hfo]at hq
 obtain⟨a5,ha5⟩:∃a5,a5=S.length:=⟨_,rfl⟩
 obtain⟨a6,ha6⟩:∃a6,a6=S.length+1:=⟨_,rfl⟩
 obtain⟨a10,ha10⟩:∃a10,a10=S.length+2:=⟨_,rfl⟩
 obtain⟨a12,ha12⟩:∃a12,a12=S.length+3:=⟨_,rfl⟩
 rw[<-ha12]at z2 z3 zP zT lW hlk hW3 key keyZ h12
 rw[<-ha10]at z2 keyZ h10
 rw[<-ha6]at zT h6
 rw[<-ha5]at zP h5
 have l10:∀r,a10<(W.set a12 r).length:=λr=>by rw[lW];omega
 have l12:∀r,a12<(W.set a12 r).length:=λr=>by rw[lW];omega
 have l10':a10<W.length:=by omega
 have l12':a12<W.length:=by omega
 clear gP gT gZ gQ h
 refine Za (λa V=>(∃f,V=W.set a12 (Ob.row 5 [[d,.nils,.nils,.int .i64 f,.int .i64 0]])/\fo=some f)/\gQ a 94 (a[12]?=some (.loc a12 0 0)) [(2,.sl 8 (w.map Wnt.enc) wx),(3,.str s),(5,.loc a5 0 0),(6,.loc a6 0 0),(10,.loc a10 0 0)]) ?_ ?_
 ·simp only[push_cast,↓WX,simprocAttr]
  refine Yk (λi a V=>(∃f,V=W.set a12 (Ob.row 5 [[d,.nils,.nils,.int .i64 f,.int .i64 0]])/\fo=famF ((l.drop i).map Prt.am) f)/\a.length=94/\a[2]?=some (.sl 8 (w.map Wnt.enc) wx)/\a[3]?=some (.str s)/\a[4]?=some (d)/\a[5]?=some (.loc a5 0 0)/\a[6]?=some (.loc a6 0 0)/\a[10]?=some (.loc a10 0 0)/\a[12]?=some (.loc a12 0 0)/\a[13]?=some (.int .i64 i)) l.length ?_ (by omega) ?_
  ·simp only[push_cast,hal,h2,h3,h4,h5,h6,h10,h12,simprocAttr,WY]
   exact⟨_,hW3,hfo⟩
  clear hfo
  rintro i a V hi ⟨⟨f,hV,e⟩,hal,h2,h3,h4,h5,h6,h10,h12,h13⟩
  have v2:=z2 (Ob.row 5 [[d,.nils,.nils,.int .i64 f,.int .i64 0]])
  have v3:=z3 (Ob.row 5 [[d,.nils,.nils,.int .i64 f,.int .i64 0]])
  have vl:=l12 (Ob.row 5 [[d,.nils,.nils,.int .i64 f,.int .i64 0]])
  have vS:∀r,(W.set a12 (Ob.row 5 [[d,.nils,.nils,.int .i64 f,.int .i64 0]])).set a12 r=W.set a12 r:=λr=>Vy ..
  have hla:=hlk (Ob.row 5 [[d,.nils,.nils,.int .i64 f,.int .i64 0]])
  rw[<-hV]at v2 v3 vl vS hla
  rcases Kw hi with hlt |rfl
  case inr=>
   rw[Vj,List.map_nil,famF]at e
   simp only[push_cast,hal,h2,h3,h4,h5,h6,h10,h12,h13,hy,↓WX,simprocAttr,WY]
   exact⟨_,hV,e⟩
  have hltc:(i:Int)<l.length:=by omega
  obtain⟨x,hx⟩:∃x,l[i]?=some x:=⟨l[i],by simp⟩
  rw[Yu hx,Uy,famF]at e
  generalize hg:IntKind.i64.wrap (f+x.am)=g at*
  have hlb:=hlk (Ob.row 5 [[d,.nils,.nils,.int .i64 g,.int .i64 0]])
  refine Ya (λa U=>U=V/\gQ a 94 (a[13]?=some (.int .i64 i)) [(2,.sl 8 (w.map Wnt.enc) wx),(3,.str s),(4,d),(5,.loc a5 0 0),(6,.loc a6 0 0),(10,.loc a10 0 0),(12,.loc a12 0 0)]) ?_ ?_
  ·simp only[push_cast,hal,h2,h3,h4,h5,h6,h10,h12,h13,hy,hltc,↓WX,simprocAttr]
  rintro a U ⟨rfl,hal,h2,h3,h4,h5,h6,h10,h12,h13⟩
  rw[Zx,Yx]
  refine Ya (λa V=>V=W.set a12 (Ob.row 5 [[d,.nils,.nils,.int .i64 g,.int .i64 0]])/\gQ a 94 (a[13]?=some (.int .i64 i)) [(2,.sl 8 (w.map Wnt.enc) wx),(3,.str s),(4,d),(5,.loc a5 0 0),(6,.loc a6 0 0),(10,.loc a10 0 0),(12,.loc a12 0 0)]) ?_ ?_
  ·rcases hla with ⟨-,rfl⟩ | ⟨lx,rfl,hk⟩ | ⟨kk,rfl,hk⟩
   ·cases hx
   case' inr.inr=>have hk:=hk [];rw[Ur]at hk
   all_goals
    simp only[push_cast,hal,h2,h3,h4,h5,h6,h10,h12,h13,hk,v3,vS,hltc,hx,hg,Prt.enc,↓WX,simprocAttr]
  rintro a V' ⟨hV',hal,h2,h3,h4,h5,h6,h10,h12,h13⟩
  have w2:=z2 (Ob.row 5 [[d,.nils,.nils,.int .i64 g,.int .i64 0]])
  have w3:=z3 (Ob.row 5 [[d,.nils,.nils,.int .i64 g,.int .i64 0]])
  have wl10:=l10 (Ob.row 5 [[d,.nils,.nils,.int .i64 g,.int .i64 0]])
  have wk:=keyZ (Ob.row 5 [[d,.nils,.nils,.int .i64 g,.int .i64 0]])
  rw[<-hV']at w2 w3 wl10 wk hlb
  by_cases c1:1099511627776<x.am
  ·rw[if_pos (.inl c1)]at e
   rw[e]at hq
   subst hq
   rcases hlb with ⟨-,rfl⟩ | ⟨lx,rfl,hk⟩ | ⟨kk,rfl,hk⟩
   ·cases hx
   case' inr.inr=>have hk:=hk [];rw[Ur]at hk
   all_goals
    simp only[push_cast,Vn,hal,h2,h3,h4,h5,h6,h10,h12,h13,hk,w2,wl10,hltc,hx,c1,Prt.enc,Tryz.f36,↓WX,simprocAttr,WY]
    exact⟨wk _,_,rfl,rfl⟩
  by_cases c2:1099511627776<g
  ·rw[if_pos (.inr c2)]at e
   rw[e]at hq
   subst hq
   rcases hlb with ⟨-,rfl⟩ | ⟨lx,rfl,hk⟩ | ⟨kk,rfl,hk⟩
   ·cases hx
   case' inr.inr=>have hk:=hk [];rw[Ur]at hk
   all_goals
    simp only[push_cast,Vn,hal,h2,h3,h4,h5,h6,h10,h12,h13,hk,w2,w3,wl10,hltc,hx,c1,c2,Prt.enc,Tryz.f36,↓WX,simprocAttr,WY]
    exact⟨wk _,_,rfl,rfl⟩
  rw[if_neg (λh=>h.elim (λh=>c1 h) (λh=>c2 h))]at e
  rcases hlb with ⟨-,rfl⟩ | ⟨lx,rfl,hk⟩ | ⟨kk,rfl,hk⟩
  ·cases hx
  case' inr.inr=>have hk:=hk [];rw[Ur]at hk
  all_goals
   simp(disch:=omega)only[push_cast,Vn,hal,h2,h3,h4,h5,h6,h10,h12,h13,hk,w3,hlt,hltc,hx,c1,c2,Prt.enc,Yf,↓WX,simprocAttr,WY]
   exact⟨_,hV',e⟩
 clear hfo hlk hy
 rintro a V ⟨⟨f,rfl,rfl⟩,hal,h2,h3,h5,h6,h10,h12⟩
 dsimp only at hq
 obtain⟨dt,hdt,cof⟩:=cof f
 have htll:=taxF_len (pct:=pct) (p:=p) (w:=w) (s:=s) (fare:=f) t.taxes []
 rw[Vs,Nat.zero_add]at htll
 generalize taxF pct p w s f t.taxes []=tx at*
 obtain⟨tl,te⟩:=tx
 dsimp only at*
 refine Ya (λa V=>V=W.set a12 (Ob.row 5 [[d,.nils,.nils,.int .i64 f,.int .i64 0]])/\gQ a 94 (a[15]?=some (.int .i64 te)) [(10,.loc a10 0 0),(12,.loc a12 0 0),(14,dt)]) ?_ ?_
 ·simp only[push_cast,hal,h2,h3,h5,h6,h10,h12,zP,zT,z3,csg,cof,↓WX,simprocAttr]
 rintro a V ⟨rfl,hal,h10,h12,h14,h15⟩
 by_cases c:te=0
 case neg=>
  rw[if_neg c]at hq
  subst hq
  simp only[push_cast,Vo,hal,h10,h15,z2,l10',c,Tryz.f36,↓WX,simprocAttr]
  exact⟨keyZ _ _,_,rfl,rfl⟩
 rw[if_pos c]at hq
 subst c
 have odt:=Yv hdt
 simp only[D.one]at odt
 have oct:dt.cells=[dt]:=by rcases hdt with ⟨rfl,-⟩ | ⟨x,rfl⟩ <;> rfl
 simp only[D.cells]at oct
 refine Ya (λa V=>V=W.set a12 (Ob.row 5 [[d,.nils,.nils,.int .i64 f,.int .i64 0]])/\gQ a 94 (a[14]?=some (dt)) [(10,.loc a10 0 0),(12,.loc a12 0 0)]) ?_ ?_
 ·simp only[push_cast,Vp,hal,h10,h12,h14,h15,↓WX,simprocAttr]
 rintro a V ⟨rfl,hal,h10,h12,h14⟩
 refine Ya (λa V=>V=W.set a12 (Ob.row 5 [[d,.nils,dt,.int .i64 f,.int .i64 0]])/\gQ a 94 (a[14]?=some (dt)) [(10,.loc a10 0 0),(12,.loc a12 0 0)]) ?_ ?_
 ·simp only[push_cast,hal,h10,h12,h14,z3,odt,oct,List.all_cons,List.all_nil,Uu,Vy,↓WX,simprocAttr]
 rintro a V ⟨rfl,hal,h10,h12,h14⟩
 refine Ya (λa V=>V=W.set a12 (Ob.row 5 [[d,.nils,dt,.int .i64 f,.int .i64 f]])/\gQ a 94 (a[14]?=some (dt)) [(10,.loc a10 0 0),(12,.loc a12 0 0)]) ?_ ?_
 ·simp only[push_cast,hal,h10,h12,h14,z3,Vy,↓WX,simprocAttr]
 rintro a V ⟨rfl,hal,h10,h12,h14⟩
 have hyt:=λS=>Jv (S:=S) Tryz.underlying39 hdt
 simp only[push_cast]at hyt
 obtain⟨uo,huo⟩:∃uo,uo=famF (tl.map (·.2)) f:=⟨_,rfl⟩
 rw[<-huo]at hq
 refine Za (λa V=>(∃u,V=W.set a12 (Ob.row 5 [[d,.nils,dt,.int .i64 f,.int .i64 u]])/\uo=some u)/\gQ a 94 (a[12]?=some (.loc a12 0 0)) [(10,.loc a10 0 0)]) ?_ ?_
 ·simp only[push_cast,↓WX,simprocAttr]
  refine Yk (λi a V=>(∃u,V=W.set a12 (Ob.row 5 [[d,.nils,dt,.int .i64 f,.int .i64 u]])/\uo=famF ((tl.drop i).map (·.2)) u)/\a.length=94/\a[10]?=some (.loc a10 0 0)/\a[12]?=some (.loc a12 0 0)/\a[14]?=some (dt)/\a[16]?=some (.int .i64 i)) tl.length ?_ (by have:=htll;omega) ?_
  ·simp only[push_cast,hal,h10,h12,h14,simprocAttr,WY]
   exact⟨_,rfl,huo⟩
  clear huo
  rintro i a V hi ⟨⟨u,hV,e⟩,hal,h10,h12,h14,h16⟩
  have v2:=z2 (Ob.row 5 [[d,.nils,dt,.int .i64 f,.int .i64 u]])
  have v3:=z3 (Ob.row 5 [[d,.nils,dt,.int .i64 f,.int .i64 u]])
  have vl:=l12 (Ob.row 5 [[d,.nils,dt,.int .i64 f,.int .i64 u]])
  have vS:∀r,(W.set a12 (Ob.row 5 [[d,.nils,dt,.int .i64 f,.int .i64 u]])).set a12 r=W.set a12 r:=λr=>Vy ..
  rw[<-hV]at v2 v3 vl vS
  rcases Kw hi with hlt |rfl
  case inr=>
   rw[Vj,List.map_nil,famF]at e
   simp only[push_cast,hal,h10,h12,h14,h16,hyt,↓WX,simprocAttr,WY]
   exact⟨_,hV,e⟩
  have hltc:(i:Int)<tl.length:=by omega
  obtain⟨x,hx⟩:∃x,tl[i]?=some x:=⟨tl[i],by simp⟩
  rw[Yu hx,Uy,famF]at e
  generalize hg:IntKind.i64.wrap (u+x.2)=g at*
  rcases hdt with ⟨-,rfl⟩ | ⟨tx,rfl⟩
  ·cases hx
  by_cases c1:1099511627776<x.2
  ·rw[if_pos (.inl c1)]at e
   rw[e]at hq
   subst hq
   simp only[push_cast,Vn,hal,h10,h12,h14,h16,v3,vS,z2,l10',hltc,hx,hg,c1,Jf,Tryz.f36,↓WX,simprocAttr,WY]
   exact⟨keyZ _ _,_,rfl,rfl⟩
  by_cases c2:1099511627776<g
  ·rw[if_pos (.inr c2)]at e
   rw[e]at hq
   subst hq
   simp only[push_cast,Vn,hal,h10,h12,h14,h16,v3,vS,z2,z3,l10',hltc,hx,hg,c1,c2,Jf,Tryz.f36,↓WX,simprocAttr,WY]
   exact⟨keyZ _ _,_,rfl,rfl⟩
  rw[if_neg (λh=>h.elim (λh=>c1 h) (λh=>c2 h))]at e
  simp(disch:=omega)only[push_cast,Vn,hal,h10,h12,h14,h16,v3,vS,z3,hlt,hltc,hx,hg,c1,c2,Jf,Yf,↓WX,simprocAttr,WY]
  exact⟨_,rfl,e⟩
 clear huo
 rintro a V ⟨⟨u,rfl,rfl⟩,hal,h10,h12⟩
 dsimp only at hq
 subst hq
 simp only[push_cast,hal,h10,h12,z2,z3,l10',od,odt,List.all_cons,List.all_nil,Uu,Tryz.f36,↓WX,simprocAttr]
 exact⟨keyZ _ _,_,rfl,hdt⟩
end
end Go.Proofs.YtaklebjoenophaaGreat.Dm
