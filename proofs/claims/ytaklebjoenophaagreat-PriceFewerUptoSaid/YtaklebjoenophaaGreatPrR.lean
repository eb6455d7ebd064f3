/-
  Whether components combine; how often a tax is due: the program, exactly.
-/
import Derived.Test.YtaklebjoenophaaGreatPrQ
set_option maxHeartbeats 64000000
set_option maxRecDepth 100000
set_option linter.unusedSimpArgs false
set_option linter.unusedVariables false
namespace Go.Proofs.YtaklebjoenophaaGreat.Dm
open Go Gw
theorem wc_ecut {E:Env} {call:Call} {n:Nat} {x y:Code} {a:List D} {S:List Ob} {Q:PostX} (m:Nat) (P:List D->List Ob->Prop) (h:WC (codeD E call n x a S) λr a S=>(r=.normal/\P a S)∨(r=.exit m/\Q (.exit m) a S)) (k:∀a S,P a S->WC (codeD E call n y a S) Q):
  WC (codeD E call n (.seq x y) a S) Q:=by
 rw[wc_seq]
 refine wc_mono h ?_
 rintro r a S (⟨rfl,hp⟩ | ⟨rfl,hq⟩)
 ·exact k a S hp
 ·exact hq
section
variable {n : Nat}
theorem CCheck_d {S:List Ob} (p:Plc) (hpa:p.aps.length<=1048576) (hsh:∀a∈p.aps,a.sh.length<=1048576) (hzo:∀a∈p.aps,ShOk a.sh) (t:Trf) (hr:t.rules.length<=1048576) (hcb:∀r∈t.rules,r.comb.length<=1048576) (w:List Wnt) (wx:Bool) {d:D} {l:List Prt} (h:LR 4 Prt.enc S d l) (hl:l.length<=900) (hn:1048950<=n):
  WO (dcall E (n+1) 30 [.agg p.enc,.agg t.enc,.sl 8 (w.map Wnt.enc) wx,d] S) λr T=>r=.int .i64 (checkF p t w l)/\∃J,T=S++J:=by
 obtain⟨R0,hR0⟩:∃R0,R0=Ob.row 2 [p.enc]:=⟨_,rfl⟩
 obtain⟨R1,hR1⟩:∃R1,R1=Ob.row 4 [t.enc]:=⟨_,rfl⟩
 have hext:ExtS S (S++[R0]++[R1]):=λ_ _ h=>get_old (get_old h)
 have cwh:=Pcovers_x (n:=n) (h.ext hext) (by omega) (w.length:Int) (by omega)
 rw[show whoF l (w.length:Int)=wholeF w l from rfl]at cwh
 obtain⟨dp,U,cpa,hXU,hlp⟩:=PPairs_x (n:=n) t (h.ext hext) hl (by omega)
 have hXU':ExtS S U:=λk o ho=>hXU _ _ (hext _ _ ho)
 obtain⟨JU,hJU⟩:=extS_pre hXU'
 have cmi:=PMixed_x (n:=n) t (h.ext hXU') hl hr hcb (by omega)
 have cst:=PStays_x (n:=n) p hpa hsh hzo t hr w wx (h.ext hXU') hl (by omega)
 clear hlp
 obtain⟨q,hq⟩:∃q,q=checkF p t w l:=⟨_,rfl⟩
 rw[<-hq]
 unfold checkF at hq
 generalize wholeF w l=bw at*
 generalize (pairsF t l).2=pe at*
 generalize mixedF t l=me at*
 generalize staysF p t w l=se at*
 simp only[Plc.enc,Trf.enc]at cpa cmi cst hR0 hR1 ⊢
 refine wo_dcall Tryz.func30 rfl (by decide) rfl 37 rfl (λa hal ha=>?_)
 have h0:a[0]?=some _:=ha 0 (by simp)
 have h1:a[1]?=some _:=ha 1 (by simp)
 have h2:a[2]?=some _:=ha 2 (by simp)
 have h3:a[3]?=some _:=ha 3 (by simp)
 clear ha
 refine wc_scut (λa V=>V=S++[R0]++[R1]/\a.length=37/\a[2]?=some (.sl 8 (w.map Wnt.enc) wx)/\a[3]?=some (d)/\a[4]?=some (.loc S.length 0 0)/\a[5]?=some (.loc (S.length+1) 0 0)) ?_ ?_
 ·simp only[push_cast,hal,h0,h1,h2,h3,hR0,hR1,Yd,Zd,↓WX,simprocAttr]
 rintro a V ⟨rfl,hal,h2,h3,h4,h5⟩
 have gP:(S++[R0]++[R1])[S.length]?=some (Ob.row 2 [[.sl 5 (p.aps.map Apt.enc) p.apsx,.sl 3 (p.dts.map Dst.enc) p.dtsx]]):=by rw[hR0];exact end0
 have gT:(S++[R0]++[R1])[S.length+1]?=some (Ob.row 4 [[.sl 9 (t.fares.map Far.enc) t.fx,.sl 15 (t.rules.map Rul.enc) t.rx,.sl 3 (t.rous.map Rou.enc) t.ox,.sl 7 (t.taxes.map Tx.enc) t.tx]]):=by rw[hR1];exact end1
 have hJV:∃J,S++[R0]++[R1]=S++J:=⟨[R0,R1],by simp⟩
 generalize S++[R0]++[R1]=V0 at*
 refine wc_rcut (λa V=>(V=V0/\bw=true)/\a.length=37/\a[2]?=some (.sl 8 (w.map Wnt.enc) wx)/\a[3]?=some (d)/\a[4]?=some (.loc S.length 0 0)/\a[5]?=some (.loc (S.length+1) 0 0)) ?_ ?_
 ·cases bw
  ·simp only[Yr,if_false]at hq
   subst hq
   simp only[push_cast,hal,h2,h3,cwh,Tryz.f30,↓WX,simprocAttr,WY]
   exact hJV
  ·simp only[push_cast,hal,h2,h3,h4,h5,cwh,↓WX,simprocAttr,WY]
 rintro a V ⟨⟨rfl,rfl⟩,hal,h2,h3,h4,h5⟩
 simp only[if_true]at hq
 refine wc_rcut (λa W=>(W=U/\pe=0)/\a.length=37/\a[2]?=some (.sl 8 (w.map Wnt.enc) wx)/\a[3]?=some (d)/\a[4]?=some (.loc S.length 0 0)/\a[5]?=some (.loc (S.length+1) 0 0)) ?_ ?_
 ·by_cases c:pe=0
  ·subst c
   simp only[push_cast,hal,h2,h3,h4,h5,gT,cpa,↓WX,simprocAttr,WY]
  ·rw[if_neg c]at hq
   subst hq
   simp only[push_cast,hal,h3,h5,gT,cpa,c,Tryz.f30,↓WX,simprocAttr,WY]
   exact⟨_,hJU⟩
 rintro a W ⟨⟨rfl,rfl⟩,hal,h2,h3,h4,h5⟩
 simp only[if_true]at hq
 replace gP:=hXU _ _ gP
 replace gT:=hXU _ _ gT
 refine wc_rcut (λa V=>(V=W/\me=0)/\a.length=37/\a[2]?=some (.sl 8 (w.map Wnt.enc) wx)/\a[3]?=some (d)/\a[4]?=some (.loc S.length 0 0)/\a[5]?=some (.loc (S.length+1) 0 0)) ?_ ?_
 ·by_cases c:me=0
  ·subst c
   simp only[push_cast,hal,h2,h3,h4,h5,gT,cmi,↓WX,simprocAttr,WY]
  ·rw[if_neg c]at hq
   subst hq
   simp only[push_cast,hal,h3,h5,gT,cmi,c,Tryz.f30,↓WX,simprocAttr,WY]
   exact⟨_,hJU⟩
 rintro a V ⟨⟨rfl,rfl⟩,hal,h2,h3,h4,h5⟩
 simp only[if_true]at hq
 subst hq
 simp only[push_cast,hal,h2,h3,h4,h5,gP,gT,cst,Tryz.f30,↓WX,simprocAttr]
 exact⟨_,hJU⟩
theorem CCheck_x {S:List Ob} (p:Plc) (hpa:p.aps.length<=1048576) (hsh:∀a∈p.aps,a.sh.length<=1048576) (hzo:∀a∈p.aps,ShOk a.sh) (t:Trf) (hr:t.rules.length<=1048576) (hcb:∀r∈t.rules,r.comb.length<=1048576) (w:List Wnt) (wx:Bool) {d:D} {l:List Prt} (h:LR 4 Prt.enc S d l) (hl:l.length<=900) (hn:1048951<=n):∀st,callD E (dcall E n) st S 30 [.agg p.enc,.agg t.enc,.sl 8 (w.map Wnt.enc) wx,d]=some (.int .i64 (checkF p t w l),S):=by
 obtain⟨m,rfl⟩:∃m,n=m+1:=⟨n-1,by omega⟩
 exact obs_r (A:=λd=>[.agg p.enc,.agg t.enc,.sl 8 (w.map Wnt.enc) wx,d]) rfl (Prts_pure l) rfl (λd hd=>by simp only[pureL_cons,pureL_nil,D.pure,Plc_pure,Trf_pure,Wnts_pure,hd,Yj]) (λk n=>by simp only[pureL_cons,pureL_nil,D.pure,Bool.and_false,WY]) (λS h=>CCheck_d p hpa hsh hzo t hr hcb w wx h hl (by omega)) h
theorem Pfollows_x (x:Tx) (u v:Wnt) (hu:u.tm) (hv:v.tm) (hn:1<=n):∀st S,callD E (dcall E n) st S 185 [.agg u.seg,.agg v.seg,.int .i64 x.transit]=some (.bool (trnF x u v),S):=by
 obtain⟨m,rfl⟩:∃m,n=m+1:=⟨n-1,by omega⟩
 obtain⟨u1,u2,u3,u4⟩:=hu
 obtain⟨v1,v2,v3,v4⟩:=hv
 have:WO (dcall E (m+1) 185 [.agg u.seg,.agg v.seg,.int .i64 x.transit] []) λr T=>r=.bool (trnF x u v):=by
  simp only[Wnt.seg]
  unfold trnF
  have hw:IntKind.i64.wrap (v.dep-u.arr)=v.dep-u.arr:=wrap_ok (by omega) (by omega)
  have hge:(v.dep>=u.arr)=(0<=v.dep-u.arr):=propext ⟨λh=>by omega,λh=>by omega⟩
  simp only[hw,hge]
  refine wo_dcall Tryz.func185 rfl (by decide) rfl 29 rfl (λa hal ha=>?_)
  have h0:a[0]?=some _:=ha 0 (by simp)
  have h1:a[1]?=some _:=ha 1 (by simp)
  have h2:a[2]?=some _:=ha 2 (by simp)
  clear ha
  cases e1:decide (u.to=v.fr)
  ·simp only[push_cast,hal,h0,h1,e1,str_eq,Tryz.f185,↓WX,simprocAttr,WY]
  cases e2:decide (0<=v.dep-u.arr)
  ·simp only[push_cast,hal,h0,h1,e1,e2,hw,str_eq,Xe,Tryz.f185,↓WX,simprocAttr,WY]
  ·simp only[push_cast,hal,h0,h1,h2,e1,e2,hw,str_eq,Xe,Tryz.f185,↓WX,simprocAttr,WY]
 obtain⟨_,T,ho,rfl⟩:=this
 exact λst S=>callD_pure rfl (by simp only[pureL_cons,pureL_nil,D.pure,Seg_pure,Yj]) ho rfl
theorem PTimes_d (p:Plc) (hpa:p.aps.length<=1048576) (x:Tx) (hg:TxG x) (hxf:x.free.length<=1048576) (l:List Wnt) (lx:Bool) (hl:l.length<=1000) (htm:∀w∈l,w.tm) (s:ByteArray) (hn:1048800<=n):
  WO (dcall E (n+1) 135 [.agg p.enc,.agg x.enc,.sl 7 (l.map Wnt.seg) lx,.str s] []) λr T=>r=.int .i64 (timF p x l s):=by
 have cct:=λc st S=>PCty_c (n:=n) (p:=p) (s:=c) (by omega) (by omega) st S
 have cfo:=λu v hu hv=>Pfollows_x (n:=n) x u v hu hv (by omega)
 have chs:=PContS_x (n:=n) (d:=.sl 1 (x.free.map Cnd.encT) x.freex) (l:=x.free) (.inr ⟨_,rfl⟩) hxf s (by omega)
 obtain⟨tm,htf⟩:∃tm,tm=timF p x l s:=⟨_,rfl⟩
 rw[<-htf]
 unfold timF at htf
 generalize (x.free.any λy=>decide (y=s))=bf at*
 obtain⟨⟨k1,k2⟩,⟨c1,c2⟩,-,-⟩:=hg
 simp only[Plc.enc]at cct ⊢
 have hxe:Tx.enc x=[.str x.code,.int .i64 x.kind,.str x.land,.int .i64 x.amount,.int .i64 x.scope,.int .i64 x.transit,.sl 1 (x.free.map Cnd.encT) x.freex]:=rfl
 rw[hxe]
 refine wo_dcall Tryz.func135 rfl (by decide) rfl 121 rfl (λa hal ha=>?_)
 have h0:a[0]?=some _:=ha 0 (by simp)
 have h1:a[1]?=some _:=ha 1 (by simp)
 have h2:a[2]?=some _:=ha 2 (by simp)
 have h3:a[3]?=some _:=ha 3 (by simp)
 clear ha
 obtain⟨V0,hV0⟩:∃V0:List Ob,V0=[Ob.row 2 [[.sl 5 (p.aps.map Apt.enc) p.apsx,.sl 3 (p.dts.map Dst.enc) p.dtsx]],Ob.row 7 [[.str x.code,.int .i64 x.kind,.str x.land,.int .i64 x.amount,.int .i64 x.scope,.int .i64 x.transit,.sl 1 (x.free.map Cnd.encT) x.freex]]]:=⟨_,rfl⟩
 have g0:∀J,(V0++J)[0]?=some (Ob.row 2 [[.sl 5 (p.aps.map Apt.enc) p.apsx,.sl 3 (p.dts.map Dst.enc) p.dtsx]]):=λJ=>by rw[hV0];rfl
 have g1:∀J,(V0++J)[1]?=some (Ob.row 7 [[.str x.code,.int .i64 x.kind,.str x.land,.int .i64 x.amount,.int .i64 x.scope,.int .i64 x.transit,.sl 1 (x.free.map Cnd.encT) x.freex]]):=λJ=>by rw[hV0];rfl
 refine wc_scut (λa V=>(∃J,V=V0++J)/\a.length=121/\a[2]?=some (.sl 7 (l.map Wnt.seg) lx)/\a[3]?=some (.str s)/\a[4]?=some (.loc 0 0 0)/\a[5]?=some (.loc 1 0 0)) ?_ ?_
 ·simp only[push_cast,hal,h0,h1,h2,h3,↓WX,simprocAttr]
  exact⟨[],by rw[hV0];rfl⟩
 clear hV0
 rintro a V ⟨⟨J,rfl⟩,hal,h2,h3,h4,h5⟩
 have e1:=g1 J
 cases bf
 case true=>
  rw[if_pos rfl]at htf
  subst htf
  simp only[push_cast,hal,h3,h5,e1,chs,Tryz.f135,↓WX,simprocAttr,WY]
 rw[if_neg (by simp),if_neg (by omega)]at htf
 refine wc_scut (λa V=>V=V0++J/\a.length=121/\a[2]?=some (.sl 7 (l.map Wnt.seg) lx)/\a[4]?=some (.loc 0 0 0)/\a[5]?=some (.loc 1 0 0)) ?_ ?_
 ·simp only[push_cast,hal,h2,h3,h4,h5,e1,chs,↓WX,simprocAttr]
 rintro a V ⟨rfl,hal,h2,h4,h5⟩
 refine wc_scut (λa V=>V=V0++J/\a.length=121/\a[2]?=some (.sl 7 (l.map Wnt.seg) lx)/\a[4]?=some (.loc 0 0 0)/\a[5]?=some (.loc 1 0 0)/\a[9]?=some (.int .i64 0)) ?_ ?_
 ·simp only[push_cast,hal,h2,h4,h5,↓WX,simprocAttr]
 rintro a V ⟨rfl,hal,h2,h4,h5,h9⟩
 obtain⟨cap,hcap⟩:∃cap:Nat->Nat,cap=λc=>if x.kind=4 then min c 1 else c:=⟨_,rfl⟩
 have htf:tm=cap (sumD p x none l):=by rw[htf,hcap]
 have hc0:cap 0=0:=by rw[hcap];dsimp only;split <;> rfl
 have hsl:=sumD_le p x none l
 have hcle:∀c,cap c<=c:=λc=>by rw[hcap];dsimp only;split <;> omega
 have hcs:∀c,cap (c+1)=if x.kind=4 then 1 else c+1:=λc=>by rw[hcap];dsimp only;split <;> omega
 have hc4:∀c,x.kind=4->(cap c=0↔c=0):=λc h=>by rw[hcap];dsimp only;rw[if_pos h];omega
 have hcn:∀c,¬x.kind=4->cap c=c:=λc h=>by rw[hcap];dsimp only;rw[if_neg h]
 clear hcap
 refine wc_scut (λa V=>a[9]?=some (.int .i64 tm)/\a.length=121) ?_ ?_
 ·simp only[push_cast,hal,h2,↓WX,simprocAttr]
  refine wl_loop (λi a T=>((∃J,T=V0++J)/\∃c:Nat,a[9]?=some (.int .i64 (cap c:Nat))/\c+sumD p x (if i=0 then none else l[i-1]?) (l.drop i)=sumD p x none l)/\a.length=121/\a[2]?=some (.sl 7 (l.map Wnt.seg) lx)/\a[4]?=some (.loc 0 0 0)/\a[5]?=some (.loc 1 0 0)/\a[19]?=some (.sl 7 (l.map Wnt.seg) lx)/\a[20]?=some (.int .i64 l.length)/\a[21]?=some (.int .i64 i)) l.length ?_ (by omega) ?_
  ·simp only[push_cast,hal,h2,h4,h5,h9,simprocAttr,WY]
   exact⟨⟨_,rfl⟩,0,by rw[hc0];rfl,by simp⟩
  clear e1 J
  rintro i a T hi ⟨⟨⟨J,rfl⟩,c,h9,e⟩,hal,h2,h4,h5,h19,h20,h21⟩
  rcases Yf hi with hlt |rfl
  case inr=>
   rw[Zt,sumD,Nat.add_zero]at e
   rw[e,<-htf]at h9
   simp only[push_cast,hal,h9,h20,h21,↓WX,simprocAttr,WY]
  have hltc:(i:Int)<l.length:=by omega
  obtain⟨z,hz⟩:∃z,l[i]?=some z:=⟨l[i],by simp⟩
  have hzm:=htm z (Yg hz)
  rw[drop_at hz,sumD]at e
  have hnx:(if i+1=0 then none else l[i+1-1]?)=some z:=by rw[if_neg (Nat.succ_ne_zero i),Nat.add_sub_cancel];exact hz
  have hhd:(l.drop (i+1)).head? =l[i+1]? :=by rw[List.head?_drop]
  rw[hhd]at e
  obtain⟨due,hdu⟩:∃due,due=dueF p x (if i=0 then none else l[i-1]?) z l[i+1]? :=⟨_,rfl⟩
  rw[<-hdu]at e
  have hcb:=hcle c
  have hcl:c<=1000:=by omega
  have fin:∀d':Nat,d'=due->c+d'+sumD p x (if i+1=0 then none else l[i+1-1]?) (l.drop (i+1))=sumD p x none l:=λd' hd=>by rw[hnx,hd];omega
  clear e
  refine wc_scut (λa V=>V=V0++J/\a.length=121/\a[2]?=some (.sl 7 (l.map Wnt.seg) lx)/\a[4]?=some (.loc 0 0 0)/\a[5]?=some (.loc 1 0 0)/\a[9]?=some (.int .i64 (cap c:Nat))/\a[19]?=some (.sl 7 (l.map Wnt.seg) lx)/\a[20]?=some (.int .i64 l.length)/\a[21]?=some (.int .i64 i)/\a[22]?=some (.bool true)) ?_ ?_
  ·simp only[push_cast,hal,h2,h4,h5,h9,h19,h20,h21,hltc,↓WX,simprocAttr]
  rintro a V ⟨rfl,hal,h2,h4,h5,h9,h19,h20,h21,h22⟩
  refine wc_scut (λa V=>V=V0++J/\a.length=121/\a[2]?=some (.sl 7 (l.map Wnt.seg) lx)/\a[4]?=some (.loc 0 0 0)/\a[5]?=some (.loc 1 0 0)/\a[9]?=some (.int .i64 (cap c:Nat))/\a[19]?=some (.sl 7 (l.map Wnt.seg) lx)/\a[20]?=some (.int .i64 l.length)/\a[21]?=some (.int .i64 i)) ?_ ?_
  ·simp only[push_cast,hal,h2,h4,h5,h9,h19,h20,h21,h22,↓WX]
  rintro a V ⟨rfl,hal,h2,h4,h5,h9,h19,h20,h21⟩
  rw[wc_seq,wc_block]
  refine wc_scut (λa V=>(∃kx J,a[11]?=some (.loc kx 0 0)/\V[kx]?=some (.row 7 [[.str z.car,.int .i64 z.num,.int .i64 z.day,.str z.fr,.str z.to,.int .i64 z.dep,.int .i64 z.arr]])/\V=V0++J)/\a.length=121/\a[2]?=some (.sl 7 (l.map Wnt.seg) lx)/\a[4]?=some (.loc 0 0 0)/\a[5]?=some (.loc 1 0 0)/\a[9]?=some (.int .i64 (cap c:Nat))/\a[10]?=some (.int .i64 i)/\a[19]?=some (.sl 7 (l.map Wnt.seg) lx)/\a[20]?=some (.int .i64 l.length)/\a[21]?=some (.int .i64 i)) ?_ ?_
  ·simp only[push_cast,hal,h2,h4,h5,h9,h19,h20,h21,hz,set_end,get_end,Wnt.seg,↓WX,simprocAttr]
   exact⟨_,_,rfl,get_end,Zp ..⟩
  clear J
  rintro a V ⟨⟨kx,J,h11,gx,rfl⟩,hal,h2,h4,h5,h9,h10,h19,h20,h21⟩
  have e0:=g0 J
  have e1:=g1 J
  have hVJ:∃K,V0++J=V0++K:=⟨_,rfl⟩
  generalize V0++J=V at*
  have ca:=cct z.fr
  have cb:=cct z.to
  unfold dueF scpF at hdu
  obtain⟨b1,hb1⟩:∃b1,b1=decide (ctyS p z.fr=x.land):=⟨_,rfl⟩
  obtain⟨b2,hb2⟩:∃b2,b2=decide (ctyS p z.to=x.land):=⟨_,rfl⟩
  rw[<-hb1,<-hb2]at hdu
  refine wc_scut (λa T=>T=V/\a.length=121/\a[2]?=some (.sl 7 (l.map Wnt.seg) lx)/\a[4]?=some (.loc 0 0 0)/\a[5]?=some (.loc 1 0 0)/\a[9]?=some (.int .i64 (cap c:Nat))/\a[10]?=some (.int .i64 i)/\a[11]?=some (.loc kx 0 0)/\a[12]?=some (.bool b1)/\a[13]?=some (.bool b2)/\a[19]?=some (.sl 7 (l.map Wnt.seg) lx)/\a[20]?=some (.int .i64 l.length)/\a[21]?=some (.int .i64 i)) ?_ ?_
  ·simp only[push_cast,hal,h2,h4,h5,h9,h10,h11,h19,h20,h21,e0,e1,gx,ca,cb,<-hb1,<-hb2,str_eq,↓WX,simprocAttr]
  clear hb1 hb2 ca cb
  rintro a T ⟨rfl,hal,h2,h4,h5,h9,h10,h11,h12,h13,h19,h20,h21⟩
  obtain⟨sc,hsc⟩:∃sc,sc=(if x.scope=0 then b1 || b2 else if x.scope=1 then b1 && b2 else !(b1 == b2)):=⟨_,rfl⟩
  rw[<-hsc]at hdu
  refine wc_ecut 1 (λa V=>(V=T/\(x.scope=0∨sc=true))/\a.length=121/\a[2]?=some (.sl 7 (l.map Wnt.seg) lx)/\a[4]?=some (.loc 0 0 0)/\a[5]?=some (.loc 1 0 0)/\a[9]?=some (.int .i64 (cap c:Nat))/\a[10]?=some (.int .i64 i)/\a[11]?=some (.loc kx 0 0)/\a[12]?=some (.bool b1)/\a[13]?=some (.bool b2)/\a[19]?=some (.sl 7 (l.map Wnt.seg) lx)/\a[20]?=some (.int .i64 l.length)/\a[21]?=some (.int .i64 i)) ?_ ?_
  ·by_cases s0:x.scope=0
   ·simp only[push_cast,decide_not,Zx,hal,h2,h4,h5,h9,h10,h11,h12,h13,h19,h20,h21,e1,s0,true_or,↓WX,simprocAttr,WY]
   rw[if_neg s0]at hsc
   by_cases s1:x.scope=1
   ·rw[if_pos s1]at hsc
    cases b1
    ·have hsc:sc=false:=hsc
     rw[hsc,if_pos rfl]at hdu
     simp(maxSteps:=1000000)(disch:=omega)only[push_cast,decide_not,Zx,hal,h2,h4,h5,h9,h10,h11,h12,h13,h19,h20,h21,e1,s1,hlt,decide_true,decide_false,Bool.not_false,wrap_ok,Int.natCast_add,Int.natCast_one,false_and,false_or,true_and,↓WX,simprocAttr]
     exact⟨hVJ,c,rfl,fin 0 hdu.symm⟩
    cases b2
    ·have hsc:sc=false:=hsc
     rw[hsc,if_pos rfl]at hdu
     simp(maxSteps:=1000000)(disch:=omega)only[push_cast,decide_not,Zx,hal,h2,h4,h5,h9,h10,h11,h12,h13,h19,h20,h21,e1,s1,hlt,decide_true,decide_false,Bool.not_true,Bool.not_false,wrap_ok,Int.natCast_add,Int.natCast_one,false_and,false_or,true_and,↓WX,simprocAttr]
     exact⟨hVJ,c,rfl,fin 0 hdu.symm⟩
    ·have hsc:sc=true:=hsc
     simp only[push_cast,decide_not,Zx,hal,h2,h4,h5,h9,h10,h11,h12,h13,h19,h20,h21,e1,s1,hsc,or_true,↓WX,simprocAttr,WY]
   ·rw[if_neg s1]at hsc
    have s2:x.scope=2:=by omega
    cases hb:(b1 == b2)
    ·rw[hb]at hsc
     have hsc:sc=true:=hsc
     simp only[push_cast,decide_not,Zx,hal,h2,h4,h5,h9,h10,h11,h12,h13,h19,h20,h21,e1,s2,eq_bool,hb,hsc,or_true,↓WX,simprocAttr,WY]
    ·rw[hb]at hsc
     have hsc:sc=false:=hsc
     rw[hsc,if_pos rfl]at hdu
     simp(maxSteps:=1000000)(disch:=omega)only[push_cast,decide_not,Zx,hal,h2,h4,h5,h9,h10,h11,h12,h13,h19,h20,h21,e1,s2,eq_bool,hb,hlt,decide_true,decide_false,wrap_ok,Int.natCast_add,Int.natCast_one,false_and,false_or,true_and,↓WX,simprocAttr]
     exact⟨hVJ,c,rfl,fin 0 hdu.symm⟩
  rintro a V ⟨⟨rfl,hs⟩,hal,h2,h4,h5,h9,h10,h11,h12,h13,h19,h20,h21⟩
  refine wc_scut (λa T=>T=V/\a.length=121/\a[2]?=some (.sl 7 (l.map Wnt.seg) lx)/\a[4]?=some (.loc 0 0 0)/\a[5]?=some (.loc 1 0 0)/\a[9]?=some (.int .i64 (cap c:Nat))/\a[10]?=some (.int .i64 i)/\a[11]?=some (.loc kx 0 0)/\a[12]?=some (.bool b1)/\a[13]?=some (.bool b2)/\a[14]?=some (.bool false)/\a[19]?=some (.sl 7 (l.map Wnt.seg) lx)/\a[20]?=some (.int .i64 l.length)/\a[21]?=some (.int .i64 i)) ?_ ?_
  ·simp only[push_cast,hal,h2,h4,h5,h9,h10,h11,h12,h13,h19,h20,h21,↓WX,simprocAttr]
  rintro a T ⟨rfl,hal,h2,h4,h5,h9,h10,h11,h12,h13,h14,h19,h20,h21⟩
  refine wc_scut (λa V=>(V=T/\∃b:Bool,a[14]?=some (.bool b)/\((if b=true then cap c+1 else cap c)=cap (c+due)))/\a.length=121/\a[2]?=some (.sl 7 (l.map Wnt.seg) lx)/\a[4]?=some (.loc 0 0 0)/\a[5]?=some (.loc 1 0 0)/\a[9]?=some (.int .i64 (cap c:Nat))/\a[19]?=some (.sl 7 (l.map Wnt.seg) lx)/\a[20]?=some (.int .i64 l.length)/\a[21]?=some (.int .i64 i)) ?_ ?_
  ·have hsc':sc=false->b1=false/\b2=false:=λh=>by
    rcases hs with s0 |hs
    ·rw[if_pos s0]at hsc
     rw[h]at hsc
     cases b1 <;> cases b2 <;> simp at hsc ⊢
    ·rw[hs]at h;cases h
   have hor:sc=true->b1=true∨b2=true:=λh=>by
    rw[h]at hsc
    cases b1 <;> cases b2 <;> simp at hsc ⊢
   clear hsc hs
   by_cases q1:x.kind=1
   ·have hk4:¬x.kind=4:=by omega
    simp only[q1,WY]at hdu
    have q2:((1:Int)=2)=False:=by simp
    simp only[q2,Yr,if_false,WY]at hdu
    cases b1
    ·have:due=0:=by
      rw[hdu]
      cases sc <;> simp
     subst this
     simp only[push_cast,hal,h2,h4,h5,h9,h12,h19,h20,h21,e1,q1,↓WX,simprocAttr,WY]
     exact⟨false,rfl,by simp⟩
    have hst:sc=true:=by
     cases sc with
     |false=>exact absurd (hsc' rfl).1 (by simp)
     |true=>rfl
    rw[hst]at hdu
    simp only[Bool.true_eq_false,if_false,Bool.false_or,WY]at hdu
    by_cases i0:i=0
    ·subst i0
     rw[if_pos rfl]at hdu
     simp only[optB,Yr,if_false]at hdu
     subst hdu
     simp only[push_cast,hal,h2,h4,h5,h9,h10,h12,h19,h20,h21,e1,q1,↓WX,simprocAttr,WY]
     exact⟨true,rfl,by rw[hcn _ hk4,hcn _ hk4];rfl⟩
    ·have i0':((i:Int)=0)=False:=eq_false (by omega)
     have hi1:((i:Int)-1).toNat=i-1:=by omega
     have hi2:(0<=(i:Int)-1)=True:=eq_true (by omega)
     have hi3:i-1<l.length:=by omega
     have hw:IntKind.i64.wrap ((i:Int)-1)=(i:Int)-1:=wrap_ok (by omega) (by omega)
     obtain⟨u,hu⟩:∃u,l[i-1]?=some u:=⟨l[i-1],by simp⟩
     have hum:=htm u (Yg hu)
     have cf:=cfo u z hum hzm
     simp only[Wnt.seg]at cf
     rw[if_neg i0,hu]at hdu
     have hdu:due=if trnF x u z=true then 0 else 1:=hdu
     cases ht:trnF x u z
     ·rw[ht]at hdu cf
      simp only[Yr,if_false]at hdu
      subst hdu
      simp only[push_cast,hal,h2,h4,h5,h9,h10,h11,h12,h19,h20,h21,e1,gx,q1,i0',hi1,hi2,hw,hu,cf,Wnt.seg,↓WX,simprocAttr,WY]
      exact⟨true,rfl,by rw[hcn _ hk4,hcn _ hk4];rfl⟩
     ·rw[ht]at hdu cf
      simp only[if_true]at hdu
      subst hdu
      simp only[push_cast,hal,h2,h4,h5,h9,h10,h11,h12,h19,h20,h21,e1,gx,q1,i0',hi1,hi2,hw,hu,cf,Wnt.seg,↓WX,simprocAttr,WY]
      exact⟨false,rfl,by simp⟩
   simp only[q1,Yr,if_false,WY]at hdu
   by_cases q2:x.kind=2
   ·have hk4:¬x.kind=4:=by omega
    have q21:((2:Int)=1)=False:=by simp
    simp only[q2,WY]at hdu
    cases b2
    ·have:due=0:=by
      rw[hdu]
      cases sc <;> simp
     subst this
     simp only[push_cast,hal,h2,h4,h5,h9,h13,h19,h20,h21,e1,q2,q21,↓WX,simprocAttr,WY]
     exact⟨false,rfl,by simp⟩
    have hst:sc=true:=by
     cases sc with
     |false=>exact absurd (hsc' rfl).2 (by simp)
     |true=>rfl
    rw[hst]at hdu
    simp only[Bool.true_eq_false,if_false,Bool.false_or,WY]at hdu
    have hw:IntKind.i64.wrap ((i:Int)+1)=((i+1:Nat):Int):=by rw[wrap_ok (by omega) (by omega)];push_cast<;>rfl
    by_cases il:i+1<l.length
    case neg=>
     have hno:l[i+1]?=none:=List.getElem?_eq_none (by omega)
     rw[hno]at hdu
     simp only[optB,Yr,if_false]at hdu
     subst hdu
     have il':(((i+1:Nat):Int)=l.length)=True:=eq_true (by omega)
     generalize ((i+1:Nat):Int)=i1 at hw il'
     simp only[push_cast,hal,h2,h4,h5,h9,h10,h13,h19,h20,h21,e1,q2,q21,hw,il',↓WX,simprocAttr,WY]
     exact⟨true,rfl,by rw[hcn _ hk4,hcn _ hk4];rfl⟩
    ·have il':(((i+1:Nat):Int)=l.length)=False:=eq_false (by omega)
     obtain⟨u,hu⟩:∃u,l[i+1]?=some u:=⟨l[i+1],by simp⟩
     have hum:=htm u (Yg hu)
     have cf:=cfo z u hzm hum
     simp only[Wnt.seg]at cf
     have hi1:((i+1:Nat):Int).toNat=i+1:=by omega
     have hi2:(0<=((i+1:Nat):Int))=True:=eq_true (by omega)
     rw[hu]at hdu
     have hdu:due=if trnF x z u=true then 0 else 1:=hdu
     generalize ((i+1:Nat):Int)=i1 at hw il' hi1 hi2
     cases ht:trnF x z u
     ·rw[ht]at hdu cf
      simp only[Yr,if_false]at hdu
      subst hdu
      simp only[push_cast,hal,h2,h4,h5,h9,h10,h11,h13,h19,h20,h21,e1,gx,q2,q21,hw,il',hi1,hi2,hu,cf,Wnt.seg,↓WX,simprocAttr,WY]
      exact⟨true,rfl,by rw[hcn _ hk4,hcn _ hk4];rfl⟩
     ·rw[ht]at hdu cf
      simp only[if_true]at hdu
      subst hdu
      simp only[push_cast,hal,h2,h4,h5,h9,h10,h11,h13,h19,h20,h21,e1,gx,q2,q21,hw,il',hi1,hi2,hu,cf,Wnt.seg,↓WX,simprocAttr,WY]
      exact⟨false,rfl,by simp⟩
   simp only[q2,Yr,if_false,WY]at hdu
   cases sc
   ·obtain⟨rfl,rfl⟩:=hsc' rfl
    rw[if_pos rfl]at hdu
    subst hdu
    by_cases q3:x.kind=3
    ·have q31:((3:Int)=1)=False:=by simp
     have q32:((3:Int)=2)=False:=by simp
     simp only[push_cast,hal,h2,h4,h5,h9,h12,h13,h19,h20,h21,e1,q3,q31,q32,↓WX,simprocAttr,WY]
     exact⟨false,rfl,by simp⟩
    ·have q4:x.kind=4:=by omega
     have q41:((4:Int)=1)=False:=by simp
     have q42:((4:Int)=2)=False:=by simp
     have q43:((4:Int)=3)=False:=by simp
     simp only[push_cast,hal,h2,h4,h5,h9,h12,h13,h19,h20,h21,e1,q4,q41,q42,q43,↓WX,simprocAttr,WY]
     exact⟨false,rfl,by simp⟩
   rw[if_neg (by simp)]at hdu
   subst hdu
   have hor:=hor rfl
   by_cases q3:x.kind=3
   ·have q31:((3:Int)=1)=False:=by simp
    have q32:((3:Int)=2)=False:=by simp
    have hk4:¬x.kind=4:=by omega
    cases b1
    ·have hb2:b2=true:=hor.elim (λh=>by cases h) id
     subst hb2
     simp only[push_cast,hal,h2,h4,h5,h9,h12,h13,h19,h20,h21,e1,q3,q31,q32,↓WX,simprocAttr,WY]
     exact⟨true,rfl,by rw[hcn _ hk4,hcn _ hk4];rfl⟩
    ·simp only[push_cast,hal,h2,h4,h5,h9,h12,h19,h20,h21,e1,q3,q31,q32,↓WX,simprocAttr,WY]
     exact⟨true,rfl,by rw[hcn _ hk4,hcn _ hk4];rfl⟩
   ·have q4:x.kind=4:=by omega
    have q41:((4:Int)=1)=False:=by simp
    have q42:((4:Int)=2)=False:=by simp
    have q43:((4:Int)=3)=False:=by simp
    have hkey:∃b:Bool,decide (((cap c:Nat):Int)=0)=b/\(if b=true then cap c+1 else cap c)=cap (c+1):=by
     rw[hcs,if_pos q4]
     by_cases z0:c=0
     ·have:=(hc4 c q4).2 z0
      exact⟨true,by rw[this];rfl,by rw[this];rfl⟩
     ·have h1:cap c≠0:=λh=>z0 ((hc4 c q4).1 h)
      refine⟨false,Ym (by omega),?_⟩
      obtain⟨c',rfl⟩:∃c',c=c'+1:=⟨c-1,by omega⟩
      rw[hcs,if_pos q4]
      rfl
    obtain⟨b,hb,hfin⟩:=hkey
    generalize ((cap c:Nat):Int)=cz at*
    cases b1
    ·have hb2:b2=true:=hor.elim (λh=>by cases h) id
     subst hb2
     simp only[push_cast,hal,h2,h4,h5,h9,h12,h13,h19,h20,h21,e1,q4,q41,q42,q43,hb,↓WX,simprocAttr,WY]
     exact⟨b,rfl,hfin⟩
    ·simp only[push_cast,hal,h2,h4,h5,h9,h12,h19,h20,h21,e1,q4,q41,q42,q43,hb,↓WX,simprocAttr,WY]
     exact⟨b,rfl,hfin⟩
  clear hdu hsc hs
  rintro a V ⟨⟨rfl,b,h14,hb⟩,hal,h2,h4,h5,h9,h19,h20,h21⟩
  have hf:=fin due rfl
  have hwc:IntKind.i64.wrap (((cap c:Nat):Int)+1)=((cap c+1:Nat):Int):=by rw[wrap_ok (by omega) (by omega)];push_cast<;>rfl
  cases b
  ·have hb:cap c=cap (c+due):=hb
   simp(maxSteps:=1000000)(disch:=omega)only[push_cast,hal,h2,h4,h5,h9,h14,h19,h20,h21,hlt,wrap_ok,Int.natCast_add,Int.natCast_one,↓WX,simprocAttr]
   exact⟨hVJ,c+due,by rw[hb],hf⟩
  ·have hb:cap c+1=cap (c+due):=hb
   rw[hb]at hwc
   obtain⟨ck,hck⟩:∃ck:Int,ck=((cap (c+due):Nat):Int):=⟨_,rfl⟩
   rw[<-hck]at hwc
   simp(maxSteps:=1000000)(disch:=omega)only[push_cast,hal,h2,h4,h5,h9,h14,h19,h20,h21,hlt,hwc,wrap_ok,Int.natCast_add,Int.natCast_one,↓WX,simprocAttr]
   exact⟨hVJ,c+due,hck,hf⟩
 rintro a V ⟨h9,hal⟩
 simp only[push_cast,hal,h9,Tryz.f135,↓WX,simprocAttr]
end
end Go.Proofs.YtaklebjoenophaaGreat.Dm
