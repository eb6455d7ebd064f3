/-
  Whether components combine; how often a tax is due: the program, exactly.
  Percentages, surcharges, what passengers pay, and sums: the program, exactly.
-/
import Derived.Test.YtaklebjoenophaaGreatPrQ
set_option maxHeartbeats 64000000
set_option maxRecDepth 100000
set_option linter.unusedSimpArgs false
set_option linter.unusedVariables false
namespace Go.Proofs.YtaklebjoenophaaGreat.Dm
open Go Gw
theorem wc_ecut {E:Env} {call:Call} {n:Nat} {x y:Code} {a:List D} {S:List Ob} {Q:PostX} (m:Nat) (P:List D->List Ob->Prop) (h:WC (Yr E call n x a S) λr a S=>(r=.normal/\P a S)∨(r=.exit m/\Q (.exit m) a S)) (k:∀a S,P a S->WC (Yr E call n y a S) Q):
  WC (Yr E call n (.seq x y) a S) Q:=by
 rw[Zx]
 refine wc_mono h ?_
 rintro r a S (⟨rfl,hp⟩ | ⟨rfl,hq⟩)
 ·exact k a S hp
 ·exact hq
section
variable {n : Nat}
theorem CCheck_d {S:List Ob} (p:Plc) (hpa:p.aps.length<=1048576) (hsh:∀a∈p.aps,a.sh.length<=1048576) (hzo:∀a∈p.aps,ShOk a.sh) (t:Trf) (hr:t.rules.length<=1048576) (hcb:∀r∈t.rules,r.comb.length<=1048576) (w:List Wnt) (wx:Bool) {d:D} {l:List Prt} (h:LR 4 Prt.enc S d l) (hl:l.length<=900) (hn:1048950<=n):
  WO (Yb E (n+1) 30 [.agg p.enc,.agg t.enc,.sl 8 (w.map Wnt.enc) wx,d] S) λr T=>r=.int .i64 (checkF p t w l)/\∃J,T=S++J:=by
 obtain⟨R0,hR0⟩:∃R0,R0=Ob.row 2 [p.enc]:=⟨_,rfl⟩
 obtain⟨R1,hR1⟩:∃R1,R1=Ob.row 4 [t.enc]:=⟨_,rfl⟩
 have hext:ExtS S (S++[R0]++[R1]):=λ_ _ h=>Ym (Ym h)
 have cwh:=Pcovers_x (n:=n) (h.ext hext) (by omega) (w.length:Int) (by omega)
 rw[show whoF l (w.length:Int)=wholeF w l from rfl]at cwh
 obtain⟨dp,U,cpa,hXU,hlp⟩:=PPairs_x (n:=n) t (h.ext hext) hl (by omega)
 have hXU':ExtS S U:=λk o ho=>hXU _ _ (hext _ _ ho)
 obtain⟨JU,hJU⟩:=extS_pre hXU'
 have cmi:=PMixed_x (n:=n) t (h.ext hXU') hl hr hcb (by omega)
 have cst:=PStays_x (n:=n) p hpa hsh hzo t hr w wx (h.ext hXU') hl (by omega)
 clear hlp
 obtain⟨q,hq⟩:∃q,q=checkF p t w l:=⟨_,rfl⟩
 rw[<-hq]
 unfold checkF at hq
 generalize wholeF w l=bw at*
 generalize (Xq t l).2=pe at*
 generalize mixedF t l=me at*
 generalize staysF p t w l=se at*
 simp only[Plc.enc,Trf.enc]at cpa cmi cst hR0 hR1 ⊢
 refine Ye Tryz.func30 rfl (by decide) rfl 37 rfl (λa hal ha=>?_)
 obtain⟨h0,h1,h2,h3⟩:=aQ4 ha
 clear ha
 refine Ya (λa V=>V=S++[R0]++[R1]/\gQ a 37 (a[5]?=some (.loc (S.length+1) 0 0)) [(2,.sl 8 (w.map Wnt.enc) wx),(3,d),(4,.loc S.length 0 0)]) ?_ ?_
 ·simp only[push_cast,hal,h0,h1,h2,h3,hR0,hR1,Ku,Uu,↓WX,simprocAttr]
 rintro a V ⟨rfl,hal,h2,h3,h4,h5⟩
 have gP:(S++[R0]++[R1])[S.length]?=some (Ob.row 2 [[.sl 5 (p.aps.map Apt.enc) p.apsx,.sl 3 (p.dts.map Dst.enc) p.dtsx]]):=by rw[hR0];exact end0
 have gT:(S++[R0]++[R1])[S.length+1]?=some (Ob.row 4 [[.sl 9 (t.fares.map Far.enc) t.fx,.sl 15 (t.rules.map Rul.enc) t.rx,.sl 3 (t.rous.map Rou.enc) t.ox,.sl 7 (t.taxes.map Tx.enc) t.tx]]):=by rw[hR1];exact end1
 have hJV:∃J,S++[R0]++[R1]=S++J:=⟨[R0,R1],by simp⟩
 generalize S++[R0]++[R1]=V0 at*
 refine Za (λa V=>(V=V0/\bw=true)/\gQ a 37 (a[5]?=some (.loc (S.length+1) 0 0)) [(2,.sl 8 (w.map Wnt.enc) wx),(3,d),(4,.loc S.length 0 0)]) ?_ ?_
 ·cases bw
  ·simp only[Ui,if_false]at hq
   subst hq
   simp only[push_cast,hal,h2,h3,cwh,Tryz.f30,↓WX,simprocAttr,WY]
   exact hJV
  ·simp only[push_cast,hal,h2,h3,h4,h5,cwh,↓WX,simprocAttr,WY]
 rintro a V ⟨⟨rfl,rfl⟩,hal,h2,h3,h4,h5⟩
 simp only[if_true]at hq
 refine Za (λa W=>(W=U/\pe=0)/\gQ a 37 (a[5]?=some (.loc (S.length+1) 0 0)) [(2,.sl 8 (w.map Wnt.enc) wx),(3,d),(4,.loc S.length 0 0)]) ?_ ?_
 ·by_cases c:pe=0
  ·subst c
   simp only[push_cast,Vp,hal,h2,h3,h4,h5,gT,cpa,↓WX,simprocAttr,WY]
  ·rw[if_neg c]at hq
   subst hq
   simp only[push_cast,Vo,hal,h3,h5,gT,cpa,c,Tryz.f30,↓WX,simprocAttr,WY]
   exact⟨_,hJU⟩
 rintro a W ⟨⟨rfl,rfl⟩,hal,h2,h3,h4,h5⟩
 simp only[if_true]at hq
 replace gP:=hXU _ _ gP
 replace gT:=hXU _ _ gT
 refine Za (λa V=>(V=W/\me=0)/\gQ a 37 (a[5]?=some (.loc (S.length+1) 0 0)) [(2,.sl 8 (w.map Wnt.enc) wx),(3,d),(4,.loc S.length 0 0)]) ?_ ?_
 ·by_cases c:me=0
  ·subst c
   simp only[push_cast,Vp,hal,h2,h3,h4,h5,gT,cmi,↓WX,simprocAttr,WY]
  ·rw[if_neg c]at hq
   subst hq
   simp only[push_cast,Vo,hal,h3,h5,gT,cmi,c,Tryz.f30,↓WX,simprocAttr,WY]
   exact⟨_,hJU⟩
 rintro a V ⟨⟨rfl,rfl⟩,hal,h2,h3,h4,h5⟩
 simp only[if_true]at hq
 subst hq
 simp only[push_cast,hal,h2,h3,h4,h5,gP,gT,cst,Tryz.f30,↓WX,simprocAttr]
 exact⟨_,hJU⟩
theorem CCheck_x {S:List Ob} (p:Plc) (hpa:p.aps.length<=1048576) (hsh:∀a∈p.aps,a.sh.length<=1048576) (hzo:∀a∈p.aps,ShOk a.sh) (t:Trf) (hr:t.rules.length<=1048576) (hcb:∀r∈t.rules,r.comb.length<=1048576) (w:List Wnt) (wx:Bool) {d:D} {l:List Prt} (h:LR 4 Prt.enc S d l) (hl:l.length<=900) (hn:1048951<=n):∀st,Yi E (Yb E n) st S 30 [.agg p.enc,.agg t.enc,.sl 8 (w.map Wnt.enc) wx,d]=some (.int .i64 (checkF p t w l),S):=by
 obtain⟨m,rfl⟩:∃m,n=m+1:=⟨n-1,by omega⟩
 exact obs_r (A:=λd=>[.agg p.enc,.agg t.enc,.sl 8 (w.map Wnt.enc) wx,d]) rfl (Jr l) rfl (λd hd=>by simp only[Yc,Yg,D.pure,Yt,Ja,Jd,hd,Ua]) (λk n=>by simp only[Yc,Yg,D.pure,Bool.and_false,WY]) (λS h=>CCheck_d p hpa hsh hzo t hr hcb w wx h hl (by omega)) h
theorem Pfollows_x (x:Tx) (u v:Wnt) (hu:u.tm) (hv:v.tm) (hn:1<=n):∀st S,Yi E (Yb E n) st S 185 [.agg u.seg,.agg v.seg,.int .i64 x.transit]=some (.bool (trnF x u v),S):=by
 obtain⟨m,rfl⟩:∃m,n=m+1:=⟨n-1,by omega⟩
 obtain⟨u1,u2,u3,u4⟩:=hu
 obtain⟨v1,v2,v3,v4⟩:=hv
 have:WO (Yb E (m+1) 185 [.agg u.seg,.agg v.seg,.int .i64 x.transit] []) λr T=>r=.bool (trnF x u v):=by
  simp only[Wnt.seg]
  unfold trnF
  have hw:IntKind.i64.wrap (v.dep-u.arr)=v.dep-u.arr:=Yf (by omega) (by omega)
  have hge:(v.dep>=u.arr)=(0<=v.dep-u.arr):=propext ⟨λh=>by omega,λh=>by omega⟩
  simp only[hw,hge]
  refine Ye Tryz.func185 rfl (by decide) rfl 29 rfl (λa hal ha=>?_)
  obtain⟨h0,h1,h2⟩:=aQ3 ha
  clear ha
  cases e1:decide (u.to=v.fr)
  ·simp only[push_cast,hal,h0,h1,e1,Yo,Tryz.f185,↓WX,simprocAttr,WY]
  cases e2:decide (0<=v.dep-u.arr)
  ·simp only[push_cast,hal,h0,h1,e1,e2,hw,Yo,Vx,Tryz.f185,↓WX,simprocAttr,WY]
  ·simp only[push_cast,hal,h0,h1,h2,e1,e2,hw,Yo,Vx,Tryz.f185,↓WX,simprocAttr,WY]
 obtain⟨_,T,ho,rfl⟩:=this
 exact λst S=>Yd rfl (by simp only[Yc,Yg,D.pure,Seg_pure,Ua]) ho rfl
theorem PTimes_d (p:Plc) (hpa:p.aps.length<=1048576) (x:Tx) (hg:TxG x) (hxf:x.free.length<=1048576) (l:List Wnt) (lx:Bool) (hl:l.length<=1000) (htm:∀w∈l,w.tm) (s:ByteArray) (hn:1048800<=n):
  WO (Yb E (n+1) 135 [.agg p.enc,.agg x.enc,.sl 7 (l.map Wnt.seg) lx,.str s] []) λr T=>r=.int .i64 (timF p x l s):=by
 have cct:=λc st S=>PCty_c (n:=n) (p:=p) (s:=c) (by omega) (by omega) st S
 have cfo:=λu v hu hv=>Pfollows_x (n:=n) x u v hu hv (by omega)
 have chs:=PContS_x (n:=n) (d:=.sl 1 (x.free.map Cnd.encT) x.freex) (l:=x.free) (.inr ⟨_,rfl⟩) hxf s (by omega)
 obtain⟨tm,htf⟩:∃tm,tm=timF p x l s:=⟨_,rfl⟩
 rw[<-htf]
 unfold timF at htf
 generalize (x.free.any λy=>decide (y=s))=bf at*
 obtain⟨⟨k1,k2⟩,⟨c1,c2⟩,-,-⟩:=hg
 simp only[Plc.enc]at cct ⊢
 have hxe:Tx.enc x=[.str x.code,.int .i64 x.kind,.str x.land,.int .i64 x.amount,.int .i64 x.scope,.int .i64 x.transit,.sl 1 (x.free.map Cnd.encT) x.freex]:=rfl
 rw[hxe]
 refine Ye Tryz.func135 rfl (by decide) rfl 121 rfl (λa hal ha=>?_)
 obtain⟨h0,h1,h2,h3⟩:=aQ4 ha
 clear ha
 obtain⟨V0,hV0⟩:∃V0:List Ob,V0=[Ob.row 2 [[.sl 5 (p.aps.map Apt.enc) p.apsx,.sl 3 (p.dts.map Dst.enc) p.dtsx]],Ob.row 7 [[.str x.code,.int .i64 x.kind,.str x.land,.int .i64 x.amount,.int .i64 x.scope,.int .i64 x.transit,.sl 1 (x.free.map Cnd.encT) x.freex]]]:=⟨_,rfl⟩
 have g0:∀J,(V0++J)[0]?=some (Ob.row 2 [[.sl 5 (p.aps.map Apt.enc) p.apsx,.sl 3 (p.dts.map Dst.enc) p.dtsx]]):=λJ=>by rw[hV0];rfl
 have g1:∀J,(V0++J)[1]?=some (Ob.row 7 [[.str x.code,.int .i64 x.kind,.str x.land,.int .i64 x.amount,.int .i64 x.scope,.int .i64 x.transit,.sl 1 (x.free.map Cnd.encT) x.freex]]):=λJ=>by rw[hV0];rfl
 refine Ya (λa V=>(∃J,V=V0++J)/\gQ a 121 (a[5]?=some (.loc 1 0 0)) [(2,.sl 7 (l.map Wnt.seg) lx),(3,.str s),(4,.loc 0 0 0)]) ?_ ?_
 ·simp only[push_cast,hal,h0,h1,h2,h3,↓WX,simprocAttr]
  exact⟨[],by rw[hV0];rfl⟩
 clear hV0
 rintro a V ⟨⟨J,rfl⟩,hal,h2,h3,h4,h5⟩
 have e1:=g1 J
 cases bf
 case true=>
  rw[if_pos rfl]at htf
  subst htf
  simp only[push_cast,hal,h3,h5,e1,chs,Tryz.f135,↓WX,simprocAttr,WY]
 rw[if_neg (by simp),if_neg (by omega)]at htf
 refine Ya (λa V=>V=V0++J/\gQ a 121 (a[5]?=some (.loc 1 0 0)) [(2,.sl 7 (l.map Wnt.seg) lx),(4,.loc 0 0 0)]) ?_ ?_
 ·simp only[push_cast,hal,h2,h3,h4,h5,e1,chs,↓WX,simprocAttr]
 rintro a V ⟨rfl,hal,h2,h4,h5⟩
 refine Ya (λa V=>V=V0++J/\gQ a 121 (a[9]?=some (.int .i64 0)) [(2,.sl 7 (l.map Wnt.seg) lx),(4,.loc 0 0 0),(5,.loc 1 0 0)]) ?_ ?_
 ·simp only[push_cast,hal,h2,h4,h5,↓WX,simprocAttr]
 rintro a V ⟨rfl,hal,h2,h4,h5,h9⟩
 obtain⟨cap,hcap⟩:∃cap:Nat->Nat,cap=λc=>if x.kind=4 then min c 1 else c:=⟨_,rfl⟩
 have htf:tm=cap (sumD p x none l):=by rw[htf,hcap]
 have hc0:cap 0=0:=by rw[hcap];dsimp only;split <;> rfl
 have hsl:=sumD_le p x none l
 have hcle:∀c,cap c<=c:=λc=>by rw[hcap];dsimp only;split <;> omega
 have hcs:∀c,cap (c+1)=if x.kind=4 then 1 else c+1:=λc=>by rw[hcap];dsimp only;split <;> omega
 have hc4:∀c,x.kind=4->(cap c=0↔c=0):=λc h=>by rw[hcap];dsimp only;rw[if_pos h];omega
 have hcn:∀c,¬x.kind=4->cap c=c:=λc h=>by rw[hcap];dsimp only;rw[if_neg h]
 clear hcap
 refine Ya (λa V=>a[9]?=some (.int .i64 tm)/\a.length=121) ?_ ?_
 ·simp only[push_cast,hal,h2,↓WX,simprocAttr]
  refine Yk (λi a T=>((∃J,T=V0++J)/\∃c:Nat,a[9]?=some (.int .i64 (cap c:Nat))/\c+sumD p x (if i=0 then none else l[i-1]?) (l.drop i)=sumD p x none l)/\a.length=121/\a[2]?=some (.sl 7 (l.map Wnt.seg) lx)/\a[4]?=some (.loc 0 0 0)/\a[5]?=some (.loc 1 0 0)/\a[19]?=some (.sl 7 (l.map Wnt.seg) lx)/\a[20]?=some (.int .i64 l.length)/\a[21]?=some (.int .i64 i)) l.length ?_ (by omega) ?_
  ·simp only[push_cast,hal,h2,h4,h5,h9,simprocAttr,WY]
   exact⟨⟨_,rfl⟩,0,by rw[hc0];rfl,by simp⟩
  clear e1 J
  rintro i a T hi ⟨⟨⟨J,rfl⟩,c,h9,e⟩,hal,h2,h4,h5,h19,h20,h21⟩
  rcases Kw hi with hlt |rfl
  case inr=>
   rw[Vj,sumD,Nat.add_zero]at e
   rw[e,<-htf]at h9
   simp only[push_cast,hal,h9,h20,h21,↓WX,simprocAttr,WY]
  have hltc:(i:Int)<l.length:=by omega
  obtain⟨z,hz⟩:∃z,l[i]?=some z:=⟨l[i],by simp⟩
  have hzm:=htm z (Kx hz)
  rw[Yu hz,sumD]at e
  have hnx:(if i+1=0 then none else l[i+1-1]?)=some z:=by rw[if_neg (Nat.succ_ne_zero i),Nat.add_sub_cancel];exact hz
  have hhd:(l.drop (i+1)).head? =l[i+1]? :=by rw[List.head?_drop]
  rw[hhd]at e
  obtain⟨due,hdu⟩:∃due,due=dueF p x (if i=0 then none else l[i-1]?) z l[i+1]? :=⟨_,rfl⟩
  rw[<-hdu]at e
  have hcb:=hcle c
  have hcl:c<=1000:=by omega
  have fin:∀d':Nat,d'=due->c+d'+sumD p x (if i+1=0 then none else l[i+1-1]?) (l.drop (i+1))=sumD p x none l:=λd' hd=>by rw[hnx,hd];omega
  clear e
  refine Ya (λa V=>V=V0++J/\gQ a 121 (a[22]?=some (.bool true)) [(2,.sl 7 (l.map Wnt.seg) lx),(4,.loc 0 0 0),(5,.loc 1 0 0),(9,.int .i64 (cap c:Nat)),(19,.sl 7 (l.map Wnt.seg) lx),(20,.int .i64 l.length),(21,.int .i64 i)]) ?_ ?_
  ·simp only[push_cast,hal,h2,h4,h5,h9,h19,h20,h21,hltc,↓WX,simprocAttr]
  rintro a V ⟨rfl,hal,h2,h4,h5,h9,h19,h20,h21,h22⟩
  refine Ya (λa V=>V=V0++J/\gQ a 121 (a[21]?=some (.int .i64 i)) [(2,.sl 7 (l.map Wnt.seg) lx),(4,.loc 0 0 0),(5,.loc 1 0 0),(9,.int .i64 (cap c:Nat)),(19,.sl 7 (l.map Wnt.seg) lx),(20,.int .i64 l.length)]) ?_ ?_
  ·simp only[push_cast,hal,h2,h4,h5,h9,h19,h20,h21,h22,↓WX]
  rintro a V ⟨rfl,hal,h2,h4,h5,h9,h19,h20,h21⟩
  rw[Zx,Yx]
  refine Ya (λa V=>(∃kx J,a[11]?=some (.loc kx 0 0)/\V[kx]?=some (.row 7 [[.str z.car,.int .i64 z.num,.int .i64 z.day,.str z.fr,.str z.to,.int .i64 z.dep,.int .i64 z.arr]])/\V=V0++J)/\gQ a 121 (a[21]?=some (.int .i64 i)) [(2,.sl 7 (l.map Wnt.seg) lx),(4,.loc 0 0 0),(5,.loc 1 0 0),(9,.int .i64 (cap c:Nat)),(10,.int .i64 i),(19,.sl 7 (l.map Wnt.seg) lx),(20,.int .i64 l.length)]) ?_ ?_
  ·simp only[push_cast,hal,h2,h4,h5,h9,h19,h20,h21,hz,Yq,Yl,Wnt.seg,↓WX,simprocAttr]
   exact⟨_,_,rfl,Yl,Vg ..⟩
  clear J
  rintro a V ⟨⟨kx,J,h11,gx,rfl⟩,hal,h2,h4,h5,h9,h10,h19,h20,h21⟩
  have e0:=g0 J
  have e1:=g1 J
  have hVJ:∃K,V0++J=V0++K:=⟨_,rfl⟩
  generalize V0++J=V at*
  have ca:=cct z.fr
  have cb:=cct z.to
  unfold dueF scpF at hdu
  obtain⟨b1,hb1⟩:∃b1,b1=decide (ctyS p z.fr=x.land):=⟨_,rfl⟩
  obtain⟨b2,hb2⟩:∃b2,b2=decide (ctyS p z.to=x.land):=⟨_,rfl⟩
  rw[<-hb1,<-hb2]at hdu
  refine Ya (λa T=>T=V/\gQ a 121 (a[21]?=some (.int .i64 i)) [(2,.sl 7 (l.map Wnt.seg) lx),(4,.loc 0 0 0),(5,.loc 1 0 0),(9,.int .i64 (cap c:Nat)),(10,.int .i64 i),(11,.loc kx 0 0),(12,.bool b1),(13,.bool b2),(19,.sl 7 (l.map Wnt.seg) lx),(20,.int .i64 l.length)]) ?_ ?_
  ·simp only[push_cast,hal,h2,h4,h5,h9,h10,h11,h19,h20,h21,e0,e1,gx,ca,cb,<-hb1,<-hb2,Yo,↓WX,simprocAttr]
  clear hb1 hb2 ca cb
  rintro a T ⟨rfl,hal,h2,h4,h5,h9,h10,h11,h12,h13,h19,h20,h21⟩
  obtain⟨sc,hsc⟩:∃sc,sc=(if x.scope=0 then b1 || b2 else if x.scope=1 then b1 && b2 else !(b1 == b2)):=⟨_,rfl⟩
  rw[<-hsc]at hdu
  refine wc_ecut 1 (λa V=>(V=T/\(x.scope=0∨sc=true))/\a.length=121/\a[2]?=some (.sl 7 (l.map Wnt.seg) lx)/\a[4]?=some (.loc 0 0 0)/\a[5]?=some (.loc 1 0 0)/\a[9]?=some (.int .i64 (cap c:Nat))/\a[10]?=some (.int .i64 i)/\a[11]?=some (.loc kx 0 0)/\a[12]?=some (.bool b1)/\a[13]?=some (.bool b2)/\a[19]?=some (.sl 7 (l.map Wnt.seg) lx)/\a[20]?=some (.int .i64 l.length)/\a[21]?=some (.int .i64 i)) ?_ ?_
  ·by_cases s0:x.scope=0
   ·simp only[push_cast,decide_not,Vn,hal,h2,h4,h5,h9,h10,h11,h12,h13,h19,h20,h21,e1,s0,true_or,↓WX,simprocAttr,WY]
   rw[if_neg s0]at hsc
   by_cases s1:x.scope=1
   ·rw[if_pos s1]at hsc
    cases b1
    ·have hsc:sc=false:=hsc
     rw[hsc,if_pos rfl]at hdu
     simp(disch:=omega)only[push_cast,decide_not,Vn,hal,h2,h4,h5,h9,h10,h11,h12,h13,h19,h20,h21,e1,s1,hlt,Yf,↓WX,simprocAttr,WY]
     exact⟨hVJ,c,rfl,fin 0 hdu.symm⟩
    cases b2
    ·have hsc:sc=false:=hsc
     rw[hsc,if_pos rfl]at hdu
     simp(disch:=omega)only[push_cast,decide_not,Vn,hal,h2,h4,h5,h9,h10,h11,h12,h13,h19,h20,h21,e1,s1,hlt,Yf,↓WX,simprocAttr,WY]
     exact⟨hVJ,c,rfl,fin 0 hdu.symm⟩
    ·have hsc:sc=true:=hsc
     simp only[push_cast,decide_not,Vn,hal,h2,h4,h5,h9,h10,h11,h12,h13,h19,h20,h21,e1,s1,hsc,or_true,↓WX,simprocAttr,WY]
   ·rw[if_neg s1]at hsc
    have s2:x.scope=2:=by omega
    cases hb:(b1 == b2)
    ·rw[hb]at hsc
     have hsc:sc=true:=hsc
     simp only[push_cast,decide_not,Vn,hal,h2,h4,h5,h9,h10,h11,h12,h13,h19,h20,h21,e1,s2,eq_bool,hb,hsc,or_true,↓WX,simprocAttr,WY]
    ·rw[hb]at hsc
     have hsc:sc=false:=hsc
     rw[hsc,if_pos rfl]at hdu
     simp(disch:=omega)only[push_cast,decide_not,Vn,hal,h2,h4,h5,h9,h10,h11,h12,h13,h19,h20,h21,e1,s2,eq_bool,hb,hlt,Yf,↓WX,simprocAttr,WY]
     exact⟨hVJ,c,rfl,fin 0 hdu.symm⟩
  rintro a V ⟨⟨rfl,hs⟩,hal,h2,h4,h5,h9,h10,h11,h12,h13,h19,h20,h21⟩
  refine Ya (λa T=>T=V/\gQ a 121 (a[21]?=some (.int .i64 i)) [(2,.sl 7 (l.map Wnt.seg) lx),(4,.loc 0 0 0),(5,.loc 1 0 0),(9,.int .i64 (cap c:Nat)),(10,.int .i64 i),(11,.loc kx 0 0),(12,.bool b1),(13,.bool b2),(14,.bool false),(19,.sl 7 (l.map Wnt.seg) lx),(20,.int .i64 l.length)]) ?_ ?_
  ·simp only[push_cast,hal,h2,h4,h5,h9,h10,h11,h12,h13,h19,h20,h21,↓WX,simprocAttr]
  rintro a T ⟨rfl,hal,h2,h4,h5,h9,h10,h11,h12,h13,h14,h19,h20,h21⟩
  refine Ya (λa V=>(V=T/\∃b:Bool,a[14]?=some (.bool b)/\((if b=true then cap c+1 else cap c)=cap (c+due)))/\gQ a 121 (a[21]?=some (.int .i64 i)) [(2,.sl 7 (l.map Wnt.seg) lx),(4,.loc 0 0 0),(5,.loc 1 0 0),(9,.int .i64 (cap c:Nat)),(19,.sl 7 (l.map Wnt.seg) lx),(20,.int .i64 l.length)]) ?_ ?_
  ·have hsc':sc=false->b1=false/\b2=false:=λh=>by
    rcases hs with s0 |hs
    ·rw[if_pos s0]at hsc
     rw[h]at hsc
     cases b1 <;> cases b2 <;> simp at hsc ⊢
    ·rw[hs]at h;cases h
   have hor:sc=true->b1=true∨b2=true:=λh=>by
    rw[h]at hsc
    cases b1 <;> cases b2 <;> simp at hsc ⊢
   clear hsc hs
   by_cases q1:x.kind=1
   ·have hk4:¬x.kind=4:=by omega
    simp only[q1,WY]at hdu
    have q2:((1:Int)=2)=False:=by simp
    simp only[q2,Ui,if_false,WY]at hdu
    cases b1
    ·have:due=0:=by
      rw[hdu]
      cases sc <;> simp
     subst this
     simp only[push_cast,hal,h2,h4,h5,h9,h12,h19,h20,h21,e1,q1,↓WX,simprocAttr,WY]
     exact⟨false,rfl,by simp⟩
    have hst:sc=true:=by
     cases sc with
     |false=>exact absurd (hsc' rfl).1 (by simp)
     |true=>rfl
    rw[hst]at hdu
    simp only[Bool.true_eq_false,if_false,Bool.false_or,WY]at hdu
    by_cases i0:i=0
    ·subst i0
     rw[if_pos rfl]at hdu
     simp only[optB,Ui,if_false]at hdu
     subst hdu
     simp only[push_cast,hal,h2,h4,h5,h9,h10,h12,h19,h20,h21,e1,q1,↓WX,simprocAttr,WY]
     exact⟨true,rfl,by rw[hcn _ hk4,hcn _ hk4];rfl⟩
    ·have i0':((i:Int)=0)=False:=eq_false (by omega)
     have hi1:((i:Int)-1).toNat=i-1:=by omega
     have hi2:(0<=(i:Int)-1)=True:=eq_true (by omega)
     have hi3:i-1<l.length:=by omega
     have hw:IntKind.i64.wrap ((i:Int)-1)=(i:Int)-1:=Yf (by omega) (by omega)
     obtain⟨u,hu⟩:∃u,l[i-1]?=some u:=⟨l[i-1],by simp⟩
     have hum:=htm u (Kx hu)
     have cf:=cfo u z hum hzm
     simp only[Wnt.seg]at cf
     rw[if_neg i0,hu]at hdu
     have hdu:due=if trnF x u z=true then 0 else 1:=hdu
     cases ht:trnF x u z
     ·rw[ht]at hdu cf
      simp only[Ui,if_false]at hdu
      subst hdu
      simp only[push_cast,hal,h2,h4,h5,h9,h10,h11,h12,h19,h20,h21,e1,gx,q1,i0',hi1,hi2,hw,hu,cf,Wnt.seg,↓WX,simprocAttr,WY]
      exact⟨true,rfl,by rw[hcn _ hk4,hcn _ hk4];rfl⟩
     ·rw[ht]at hdu cf
      simp only[if_true]at hdu
      subst hdu
      simp only[push_cast,hal,h2,h4,h5,h9,h10,h11,h12,h19,h20,h21,e1,gx,q1,i0',hi1,hi2,hw,hu,cf,Wnt.seg,↓WX,simprocAttr,WY]
      exact⟨false,rfl,by simp⟩
   simp only[q1,Ui,if_false,WY]at hdu
   by_cases q2:x.kind=2
   ·have hk4:¬x.kind=4:=by omega
    have q21:((2:Int)=1)=False:=by simp
    simp only[q2,WY]at hdu
    cases b2
    ·have:due=0:=by
      rw[hdu]
      cases sc <;> simp
     subst this
     simp only[push_cast,hal,h2,h4,h5,h9,h13,h19,h20,h21,e1,q2,q21,↓WX,simprocAttr,WY]
     exact⟨false,rfl,by simp⟩
    have hst:sc=true:=by
     cases sc with
     |false=>exact absurd (hsc' rfl).2 (by simp)
     |true=>rfl
    rw[hst]at hdu
    simp only[Bool.true_eq_false,if_false,Bool.false_or,WY]at hdu
    have hw:IntKind.i64.wrap ((i:Int)+1)=((i+1:Nat):Int):=by rw[Yf (by omega) (by omega)];push_cast<;>rfl
    by_cases il:i+1<l.length
    case neg=>
     have hno:l[i+1]?=none:=List.getElem?_eq_none (by omega)
     rw[hno]at hdu
     simp only[optB,Ui,if_false]at hdu
     subst hdu
     have il':(((i+1:Nat):Int)=l.length)=True:=eq_true (by omega)
     generalize ((i+1:Nat):Int)=i1 at hw il'
     simp only[push_cast,hal,h2,h4,h5,h9,h10,h13,h19,h20,h21,e1,q2,q21,hw,il',↓WX,simprocAttr,WY]
     exact⟨true,rfl,by rw[hcn _ hk4,hcn _ hk4];rfl⟩
    ·have il':(((i+1:Nat):Int)=l.length)=False:=eq_false (by omega)
     obtain⟨u,hu⟩:∃u,l[i+1]?=some u:=⟨l[i+1],by simp⟩
     have hum:=htm u (Kx hu)
     have cf:=cfo z u hzm hum
     simp only[Wnt.seg]at cf
     have hi1:((i+1:Nat):Int).toNat=i+1:=by omega
     have hi2:(0<=((i+1:Nat):Int))=True:=eq_true (by omega)
     rw[hu]at hdu
     have hdu:due=if trnF x z u=true then 0 else 1:=hdu
     generalize ((i+1:Nat):Int)=i1 at hw il' hi1 hi2
     cases ht:trnF x z u
     ·rw[ht]at hdu cf
      simp only[Ui,if_false]at hdu
      subst hdu
      simp only[push_cast,hal,h2,h4,h5,h9,h10,h11,h13,h19,h20,h21,e1,gx,q2,q21,hw,il',hi1,hi2,hu,cf,Wnt.seg,↓WX,simprocAttr,WY]
      exact⟨true,rfl,by rw[hcn _ hk4,hcn _ hk4];rfl⟩
     ·rw[ht]at hdu cf
      simp only[if_true]at hdu
      subst hdu
      simp only[push_cast,hal,h2,h4,h5,h9,h10,h11,h13,h19,h20,h21,e1,gx,q2,q21,hw,il',hi1,hi2,hu,cf,Wnt.seg,↓WX,simprocAttr,WY]
      exact⟨false,rfl,by simp⟩
   simp only[q2,Ui,if_false,WY]at hdu
   cases sc
   ·obtain⟨rfl,rfl⟩:=hsc' rfl
    rw[if_pos rfl]at hdu
    subst hdu
    by_cases q3:x.kind=3
    ·have q31:((3:Int)=1)=False:=by simp
     have q32:((3:Int)=2)=False:=by simp
     simp only[push_cast,hal,h2,h4,h5,h9,h12,h13,h19,h20,h21,e1,q3,q31,q32,↓WX,simprocAttr,WY]
     exact⟨false,rfl,by simp⟩
    ·have q4:x.kind=4:=by omega
     have q41:((4:Int)=1)=False:=by simp
     have q42:((4:Int)=2)=False:=by simp
     have q43:((4:Int)=3)=False:=by simp
     simp only[push_cast,hal,h2,h4,h5,h9,h12,h13,h19,h20,h21,e1,q4,q41,q42,q43,↓WX,simprocAttr,WY]
     exact⟨false,rfl,by simp⟩
   rw[if_neg (by simp)]at hdu
   subst hdu
   have hor:=hor rfl
   by_cases q3:x.kind=3
   ·have q31:((3:Int)=1)=False:=by simp
    have q32:((3:Int)=2)=False:=by simp
    have hk4:¬x.kind=4:=by omega
    cases b1
    ·have hb2:b2=true:=hor.elim (λh=>by cases h) id
     subst hb2
     simp only[push_cast,hal,h2,h4,h5,h9,h12,h13,h19,h20,h21,e1,q3,q31,q32,↓WX,simprocAttr,WY]
     exact⟨true,rfl,by rw[hcn _ hk4,hcn _ hk4];rfl⟩
    ·simp only[push_cast,hal,h2,h4,h5,h9,h12,h19,h20,h21,e1,q3,q31,q32,↓WX,simprocAttr,WY]
     exact⟨true,rfl,by rw[hcn _ hk4,hcn _ hk4];rfl⟩
   ·have q4:x.kind=4:=by omega
    have q41:((4:Int)=1)=False:=by simp
    have q42:((4:Int)=2)=False:=by simp
    have q43:((4:Int)=3)=False:=by simp
    have hkey:∃b:Bool,decide (((cap c:Nat):Int)=0)=b/\(if b=true then cap c+1 else cap c)=cap (c+1):=by
     rw[hcs,if_pos q4]
     by_cases z0:c=0
     ·have:=(hc4 c q4).2 z0
      exact⟨true,by rw[this];rfl,by rw[this];rfl⟩
     ·have h1:cap c≠0:=λh=>z0 ((hc4 c q4).1 h)
      refine⟨false,Ud (by omega),?_⟩
      obtain⟨c',rfl⟩:∃c',c=c'+1:=⟨c-1,by omega⟩
      rw[hcs,if_pos q4]
      rfl
    obtain⟨b,hb,hfin⟩:=hkey
    generalize ((cap c:Nat):Int)=cz at*
    cases b1
    ·have hb2:b2=true:=hor.elim (λh=>by cases h) id
     subst hb2
     simp only[push_cast,hal,h2,h4,h5,h9,h12,h13,h19,h20,h21,e1,q4,q41,q42,q43,hb,↓WX,simprocAttr,WY]
     exact⟨b,rfl,hfin⟩
    ·simp only[push_cast,hal,h2,h4,h5,h9,h12,h19,h20,h21,e1,q4,q41,q42,q43,hb,↓WX,simprocAttr,WY]
     exact⟨b,rfl,hfin⟩
  clear hdu hsc hs
  rintro a V ⟨⟨rfl,b,h14,hb⟩,hal,h2,h4,h5,h9,h19,h20,h21⟩
  have hf:=fin due rfl
  have hwc:IntKind.i64.wrap (((cap c:Nat):Int)+1)=((cap c+1:Nat):Int):=by rw[Yf (by omega) (by omega)];push_cast<;>rfl
  cases b
  ·have hb:cap c=cap (c+due):=hb
   simp(disch:=omega)only[push_cast,hal,h2,h4,h5,h9,h14,h19,h20,h21,hlt,Yf,↓WX,simprocAttr,WY]
   exact⟨hVJ,c+due,by rw[hb],hf⟩
  ·have hb:cap c+1=cap (c+due):=hb
   rw[hb]at hwc
   obtain⟨ck,hck⟩:∃ck:Int,ck=((cap (c+due):Nat):Int):=⟨_,rfl⟩
   rw[<-hck]at hwc
   simp(disch:=omega)only[push_cast,hal,h2,h4,h5,h9,h14,h19,h20,h21,hlt,hwc,Yf,↓WX,simprocAttr,WY]
   exact⟨hVJ,c+due,hck,hf⟩
 rintro a V ⟨h9,hal⟩
 simp only[push_cast,hal,h9,Tryz.f135,↓WX,simprocAttr]
end
theorem and32 {x:Int} (h0:0<=x) (h1:x<18446744073709551616):IntKind.u64.wrap (((BitVec.ofInt 64 x &&& BitVec.ofInt 64 4294967295).toNat:Nat):Int)=x % 4294967296:=by
 obtain⟨X,rfl⟩:=Int.eq_ofNat_of_zero_le h0
 have e1:BitVec.ofInt 64 (X:Int)=BitVec.ofNat 64 X:=by
  apply BitVec.eq_of_toNat_eq
  simp
 have e2:BitVec.ofInt 64 (4294967295:Int)=BitVec.ofNat 64 (2 ^ 32-1):=by decide
 rw[e1,e2,BitVec.toNat_and,BitVec.toNat_ofNat,BitVec.toNat_ofNat,Nat.mod_eq_of_lt (show X<2 ^ 64 by omega),Nat.mod_eq_of_lt (show 2 ^ 32-1<2 ^ 64 by decide),Nat.and_two_pow_sub_one_eq_mod]
 have:X % 2 ^ 32<4294967296:=Nat.mod_lt _ (by decide)
 rw[uw (by omega) (by omega)]
 omega
section
variable {n : Nat}
theorem PMul64_x (x y:Int) (hx:0<=x/\x<=1099511627776) (hy:0<=y/\y<=8388608) (hn:1<=n):∀st S,Yi E (Yb E n) st S 217 [.int .u64 x,.int .u64 y]=some (.tup [.int .u64 0,.int .u64 (x*y)],S):=by
 obtain⟨m,rfl⟩:∃m,n=m+1:=⟨n-1,by omega⟩
 obtain⟨x0,hx0⟩:∃x0,x0=x % 4294967296:=⟨_,rfl⟩
 obtain⟨x1,hx1⟩:∃x1,x1=x / 4294967296:=⟨_,rfl⟩
 have b0:0<=x0/\x0<4294967296:=by omega
 have b1:0<=x1/\x1<=256:=by omega
 have hxy:x=x1*4294967296+x0:=by omega
 obtain⟨p0,hp0⟩:∃p0,p0=x0*y:=⟨_,rfl⟩
 obtain⟨p1,hp1⟩:∃p1,p1=x1*y:=⟨_,rfl⟩
 have c0:0<=p0/\p0<=4294967295*8388608:=by
  rw[hp0]
  exact⟨Int.mul_nonneg b0.1 hy.1,Int.mul_le_mul (by omega) hy.2 hy.1 (by omega)⟩
 have c1:0<=p1/\p1<=256*8388608:=by
  rw[hp1]
  exact⟨Int.mul_nonneg b1.1 hy.1,Int.mul_le_mul b1.2 hy.2 hy.1 (by omega)⟩
 have hxyp:x*y=p1*4294967296+p0:=by rw[hxy,Int.add_mul,hp0,hp1,Int.mul_right_comm]
 have hmn:(min 32 64:Nat)=32:=by decide
 have f1:IntKind.u64.wrap (((BitVec.ofInt 64 x &&& BitVec.ofInt 64 4294967295).toNat:Nat):Int)=x0:=by rw[and32 (by omega) (by omega),hx0]
 have f2:IntKind.u64.wrap (((BitVec.ofInt 64 y &&& BitVec.ofInt 64 4294967295).toNat:Nat):Int)=y:=by rw[and32 (by omega) (by omega)];omega
 have f3:x.fdiv 4294967296=x1:=by rw[hx1,Int.fdiv_eq_ediv_of_nonneg _ (by omega)]
 have f4:y.fdiv 4294967296=0:=by rw[Int.fdiv_eq_ediv_of_nonneg _ (by omega)];omega
 have w0:IntKind.u64.wrap x0=x0:=uw (by omega) (by omega)
 have wy:IntKind.u64.wrap y=y:=uw (by omega) (by omega)
 have wp0:IntKind.u64.wrap (x0*y)=p0:=by rw[<-hp0];exact uw (by omega) (by omega)
 have wp1:IntKind.u64.wrap (x1*y)=p1:=by rw[<-hp1];exact uw (by omega) (by omega)
 obtain⟨t0,ht0⟩:∃t0,t0=p0 / 4294967296:=⟨_,rfl⟩
 have f5:p0.fdiv 4294967296=t0:=by rw[ht0,Int.fdiv_eq_ediv_of_nonneg _ (by omega)]
 obtain⟨t,ht⟩:∃t,t=p1+t0:=⟨_,rfl⟩
 have wt:IntKind.u64.wrap (p1+t0)=t:=by rw[<-ht];exact uw (by omega) (by omega)
 have bt:0<=t/\t<4294967296:=by omega
 have f6:IntKind.u64.wrap (((BitVec.ofInt 64 t &&& BitVec.ofInt 64 4294967295).toNat:Nat):Int)=t:=by rw[and32 (by omega) (by omega)];omega
 have wt2:IntKind.u64.wrap t=t:=uw (by omega) (by omega)
 have f7:t.fdiv 4294967296=0:=by rw[Int.fdiv_eq_ediv_of_nonneg _ (by omega)];omega
 have wz:IntKind.u64.wrap 0=0:=uw (by omega) (by omega)
 have wl:IntKind.u64.wrap (x*y)=x*y:=uw (by omega) (by omega)
 have this:WO (Yb E (m+1) 217 [.int .u64 x,.int .u64 y] []) λr T=>r=.tup [.int .u64 0,.int .u64 (x*y)]:=by
  clear hx0 hx1 hp0 hp1 ht0 ht hxy hxyp
  refine Ye Tryz.func217 rfl (by decide) rfl 51 rfl (λa hal ha=>?_)
  obtain⟨h0,h1⟩:=aQ2 ha
  clear ha
  refine Ya (λa V=>V=[]/\gQ a 51 (a[1]?=some (.int .u64 y)) [(0,.int .u64 x)]) ?_ ?_
  ·simp only[push_cast,hal,h0,h1,↓WX,simprocAttr]
  rintro a V ⟨rfl,hal,h0,h1⟩
  refine Ya (λa V=>V=[]/\gQ a 51 (a[6]?=some (.int .u64 x0)) [(0,.int .u64 x),(1,.int .u64 y)]) ?_ ?_
  ·simp only[push_cast,hal,h0,h1,IntKind.bits,↓WX,simprocAttr]
   exact f1
  rintro a V ⟨rfl,hal,h0,h1,h6⟩
  refine Ya (λa V=>V=[]/\gQ a 51 (a[7]?=some (.int .u64 x1)) [(0,.int .u64 x),(1,.int .u64 y),(6,.int .u64 x0)]) ?_ ?_
  ·simp only[push_cast,hal,h0,h1,h6,dShift,IntKind.bits,f3,hmn,↓WX,simprocAttr]
  rintro a V ⟨rfl,hal,h0,h1,h6,h7⟩
  refine Ya (λa V=>V=[]/\gQ a 51 (a[8]?=some (.int .u64 y)) [(0,.int .u64 x),(1,.int .u64 y),(6,.int .u64 x0),(7,.int .u64 x1)]) ?_ ?_
  ·simp only[push_cast,hal,h0,h1,h6,h7,IntKind.bits,↓WX,simprocAttr]
   exact f2
  rintro a V ⟨rfl,hal,h0,h1,h6,h7,h8⟩
  refine Ya (λa V=>V=[]/\gQ a 51 (a[9]?=some (.int .u64 0)) [(0,.int .u64 x),(1,.int .u64 y),(6,.int .u64 x0),(7,.int .u64 x1),(8,.int .u64 y)]) ?_ ?_
  ·simp only[push_cast,hal,h0,h1,h6,h7,h8,dShift,IntKind.bits,f4,hmn,↓WX,simprocAttr]
  rintro a V ⟨rfl,hal,h0,h1,h6,h7,h8,h9⟩
  refine Ya (λa V=>V=[]/\gQ a 51 (a[10]?=some (.int .u64 p0)) [(0,.int .u64 x),(1,.int .u64 y),(6,.int .u64 x0),(7,.int .u64 x1),(8,.int .u64 y),(9,.int .u64 0)]) ?_ ?_
  ·simp only[push_cast,hal,h0,h1,h6,h7,h8,h9,wp0,↓WX,simprocAttr]
  rintro a V ⟨rfl,hal,h0,h1,h6,h7,h8,h9,h10⟩
  refine Ya (λa V=>V=[]/\gQ a 51 (a[11]?=some (.int .u64 t)) [(0,.int .u64 x),(1,.int .u64 y),(6,.int .u64 x0),(7,.int .u64 x1),(9,.int .u64 0)]) ?_ ?_
  ·simp only[push_cast,hal,h0,h1,h6,h7,h8,h9,h10,dShift,IntKind.bits,f5,wp1,wt,hmn,↓WX,simprocAttr]
  rintro a V ⟨rfl,hal,h0,h1,h6,h7,h9,h11⟩
  refine Ya (λa V=>V=[]/\gQ a 51 (a[12]?=some (.int .u64 t)) [(0,.int .u64 x),(1,.int .u64 y),(6,.int .u64 x0),(7,.int .u64 x1),(9,.int .u64 0),(11,.int .u64 t)]) ?_ ?_
  ·simp only[push_cast,hal,h0,h1,h6,h7,h9,h11,IntKind.bits,↓WX,simprocAttr]
   exact f6
  rintro a V ⟨rfl,hal,h0,h1,h6,h7,h9,h11,h12⟩
  refine Ya (λa V=>V=[]/\gQ a 51 (a[13]?=some (.int .u64 0)) [(0,.int .u64 x),(1,.int .u64 y),(6,.int .u64 x0),(7,.int .u64 x1),(9,.int .u64 0),(12,.int .u64 t)]) ?_ ?_
  ·simp only[push_cast,hal,h0,h1,h6,h7,h9,h11,h12,dShift,IntKind.bits,f7,hmn,↓WX,simprocAttr]
  rintro a V ⟨rfl,hal,h0,h1,h6,h7,h9,h12,h13⟩
  refine Ya (λa V=>V=[]/\gQ a 51 (a[13]?=some (.int .u64 0)) [(0,.int .u64 x),(1,.int .u64 y),(7,.int .u64 x1),(9,.int .u64 0),(12,.int .u64 t)]) ?_ ?_
  ·simp only[push_cast,hal,h0,h1,h6,h7,h9,h12,h13,Int.mul_zero,Int.add_zero,wz,wt2,↓WX,simprocAttr]
  rintro a V ⟨rfl,hal,h0,h1,h7,h9,h12,h13⟩
  refine Ya (λa V=>V=[]/\gQ a 51 (a[4]?=some (.int .u64 0)) [(0,.int .u64 x),(1,.int .u64 y)]) ?_ ?_
  ·simp only[push_cast,hal,h0,h1,h7,h9,h12,h13,dShift,IntKind.bits,f7,Int.mul_zero,Int.add_zero,wz,hmn,↓WX,simprocAttr]
  rintro a V ⟨rfl,hal,h0,h1,h4⟩
  simp only[push_cast,hal,h0,h1,h4,wl,Tryz.f217,↓WX,simprocAttr]
 obtain⟨_,T,ho,rfl⟩:=this
 exact λst S=>Yd rfl rfl ho rfl
theorem PDiv64_x (x:Int) (hx:0<=x/\x<=18446744073709551615) (hn:1<=n):∀st S,Yi E (Yb E n) st S 218 [.int .u64 0,.int .u64 x,.int .u64 10000]=some (.tup [.int .u64 (x / 10000),.int .u64 (x % 10000)],S):=by
 obtain⟨m,rfl⟩:∃m,n=m+1:=⟨n-1,by omega⟩
 have q:x.tdiv 10000=x / 10000:=Int.tdiv_eq_ediv_of_nonneg hx.1
 have r:x.tmod 10000=x % 10000:=Int.tmod_eq_emod_of_nonneg hx.1
 have w:IntKind.u64.wrap (x / 10000)=x / 10000:=uw (by omega) (by omega)
 have:WO (Yb E (m+1) 218 [.int .u64 0,.int .u64 x,.int .u64 10000] []) λv T=>v=.tup [.int .u64 (x / 10000),.int .u64 (x % 10000)]:=by
  refine Ye Tryz.func218 rfl (by decide) rfl 135 rfl (λa hal ha=>?_)
  obtain⟨h0,h1,h2⟩:=aQ3 ha
  clear ha
  simp only[push_cast,hal,h0,h1,h2,q,r,w,Tryz.f218,↓WX,simprocAttr,WY]
 obtain⟨_,T,ho,rfl⟩:=this
 exact λst S=>Yd rfl rfl ho rfl
theorem PScale_x (x y:Int) (hx:0<=x/\x<=1099511627776) (hy:0<=y/\y<=8388608) (hn:2<=n):∀st S,Yi E (Yb E n) st S 180 [.int .u64 x,.int .u64 y,.int .u64 10000]=some (.tup [.int .u64 (x*y / 10000),.int .u64 (x*y % 10000),.bool true],S):=by
 obtain⟨m,rfl⟩:∃m,n=m+1:=⟨n-1,by omega⟩
 have hb:0<=x*y/\x*y<=1099511627776*8388608:=⟨Int.mul_nonneg hx.1 hy.1,Int.mul_le_mul hx.2 hy.2 hy.1 (by omega)⟩
 have c1:=PMul64_x (n:=m) x y hx hy (by omega)
 generalize x*y=z at*
 have c2:=PDiv64_x (n:=m) z (by omega) (by omega)
 generalize z / 10000=q at*
 generalize z % 10000=r at*
 have:WO (Yb E (m+1) 180 [.int .u64 x,.int .u64 y,.int .u64 10000] []) λv T=>v=.tup [.int .u64 q,.int .u64 r,.bool true]:=by
  refine Ye Tryz.func180 rfl (by decide) rfl 31 rfl (λa hal ha=>?_)
  obtain⟨h0,h1,h2⟩:=aQ3 ha
  clear ha
  simp only[push_cast,hal,h0,h1,h2,c1,c2,Vx,Tryz.f180,↓WX,simprocAttr,WY]
 obtain⟨_,T,ho,rfl⟩:=this
 exact λst S=>Yd rfl rfl ho rfl
theorem PPercent_x (x y:Int) (hx:0<=x) (hy:0<=y/\y<=8388608) (hn:3<=n):∀st S,Yi E (Yb E n) st S 127 [.int .i64 x,.int .i64 y]=some (.tup [.int .i64 (pctF x y).1,.int .i64 (pctF x y).2],S):=by
 obtain⟨m,rfl⟩:∃m,n=m+1:=⟨n-1,by omega⟩
 have cx:=PFits_x (n:=m) x (by omega)
 have cy:=PFits_x (n:=m) y (by omega)
 rw[Ue (show -1099511627776<=x by omega),Bool.true_and]at cx
 rw[Ue (show -1099511627776<=y by omega),Bool.true_and,Ue (show y<=1099511627776 by omega)]at cy
 obtain⟨z,hz⟩:∃z,z=pctF x y:=⟨_,rfl⟩
 rw[<-hz]
 unfold pctF at hz
 have:WO (Yb E (m+1) 127 [.int .i64 x,.int .i64 y] []) λv T=>v=.tup [.int .i64 z.1,.int .i64 z.2]:=by
  by_cases c:1099511627776<x
  ·rw[if_pos c]at hz
   subst hz
   rw[Ud (show ¬x<=1099511627776 by omega)]at cx
   refine Ye Tryz.func127 rfl (by decide) rfl 56 rfl (λa hal ha=>?_)
   obtain⟨h0,h1⟩:=aQ2 ha
   clear ha
   simp only[push_cast,hal,h0,cx,Tryz.f127,↓WX,simprocAttr,WY]
  rw[if_neg c]at hz
  rw[Ue (show x<=1099511627776 by omega)]at cx
  have s1:=PSize_x (n:=m) x hx (by omega) (by omega)
  have s2:=PSize_x (n:=m) y hy.1 (by omega) (by omega)
  have s3:=PScale_x (n:=m) x y ⟨hx,by omega⟩ hy (by omega)
  have hb:0<=x*y/\x*y<=1099511627776*8388608:=⟨Int.mul_nonneg hx hy.1,Int.mul_le_mul (by omega) hy.2 hy.1 (by omega)⟩
  have nx:(x<0)=False:=eq_false (by omega)
  have ny:(y<0)=False:=eq_false (by omega)
  generalize x*y=w at*
  obtain⟨q,hq⟩:∃q,q=w / 10000:=⟨_,rfl⟩
  obtain⟨r,hr⟩:∃r,r=w % 10000:=⟨_,rfl⟩
  rw[<-hq,<-hr]at s3
  have w1:IntKind.u64.wrap (q+1)=q+1:=uw (by omega) (by omega)
  have w2:IntKind.i64.wrap q=q:=Yf (by omega) (by omega)
  have w3:IntKind.i64.wrap (q+1)=q+1:=Yf (by omega) (by omega)
  have eb:dEq Tryz.prog 10000 4 (.bool false) (.bool false)=some true:=eq_bool false false
  refine Ye Tryz.func127 rfl (by decide) rfl 56 rfl (λa hal ha=>?_)
  obtain⟨h0,h1⟩:=aQ2 ha
  clear ha
  by_cases c1:r>5000
  ·have hv:(2*w+10000) / 20000=q+1:=by omega
   rw[hv]at hz
   by_cases c2:1099511627776<q+1
   ·rw[if_pos c2]at hz
    subst hz
    simp only[push_cast,Vn,hal,h0,h1,cx,cy,s1,s2,s3,nx,ny,w1,eb,c1,c2,Tryz.f127,↓WX,simprocAttr,WY]
   ·rw[if_neg c2]at hz
    subst hz
    simp only[push_cast,Vn,hal,h0,h1,cx,cy,s1,s2,s3,nx,ny,w1,w3,eb,c1,c2,Tryz.f127,↓WX,simprocAttr,WY]
  by_cases c3:r=5000
  ·have hv:(2*w+10000) / 20000=q+1:=by omega
   rw[hv]at hz
   by_cases c2:1099511627776<q+1
   ·rw[if_pos c2]at hz
    subst hz
    simp only[push_cast,Vn,hal,h0,h1,cx,cy,s1,s2,s3,nx,ny,w1,eb,c2,c3,Tryz.f127,↓WX,simprocAttr,WY]
   ·rw[if_neg c2]at hz
    subst hz
    simp only[push_cast,Vn,hal,h0,h1,cx,cy,s1,s2,s3,nx,ny,w1,w3,eb,c2,c3,Tryz.f127,↓WX,simprocAttr,WY]
  ·have hv:(2*w+10000) / 20000=q:=by omega
   rw[hv]at hz
   by_cases c2:1099511627776<q
   ·rw[if_pos c2]at hz
    subst hz
    simp only[push_cast,Vn,hal,h0,h1,cx,cy,s1,s2,s3,nx,ny,eb,c1,c2,c3,Tryz.f127,↓WX,simprocAttr,WY]
   ·rw[if_neg c2]at hz
    subst hz
    simp only[push_cast,Vn,hal,h0,h1,cx,cy,s1,s2,s3,nx,ny,w2,eb,c1,c2,c3,Tryz.f127,↓WX,simprocAttr,WY]
 obtain⟨_,T,ho,rfl⟩:=this
 exact λst S=>Yd rfl rfl ho rfl
end
end Go.Proofs.YtaklebjoenophaaGreat.Dm
