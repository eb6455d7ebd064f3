/-
  Why a fare does not apply to segments, and what it costs: the program, exactly.
-/
import Derived.Test.YtaklebjoenophaaGreatPrU
set_option maxHeartbeats 64000000
set_option maxRecDepth 100000
set_option linter.unusedSimpArgs false
set_option linter.unusedVariables false
namespace Go.Proofs.YtaklebjoenophaaGreat.Dm
open Go Gw
def farA (t:Trf) (k:Int):Far:=(t.fares[k.toNat]?).getD zeFar
def outF (t:Trf) (k:Int) (l:List Wnt):Prop:=l.length=0∨k<0∨(t.fares.length:Int)<=k
instance (t:Trf) (k:Int) (l:List Wnt):Decidable (outF t k l):=inferInstanceAs (Decidable (_∨_))
noncomputable def whyG (p:Plc) (t:Trf) (f:Far) (l:List Wnt) (s:ByteArray) (sale:Int):Int:=
 if endF f l (citF p l)=true then
  if (l.any λq=> !decide (q.cls=f.cls))=true then 16
  else if alwP (rulT t f.rul) (tripP p l s sale)=0 then wyN p t f (citF p l) else alwP (rulT t f.rul) (tripP p l s sale)
 else 19
noncomputable def whyN (p:Plc) (t:Trf) (k:Int) (l:List Wnt) (s:ByteArray) (sale:Int):Int:=if outF t k l then 2 else whyG p t (farA t k) l s sale
noncomputable def amtG (p:Plc) (t:Trf) (f:Far) (l:List Wnt) (s:ByteArray):Int×Int:=
 let x:Int×Int:=if f.rou=0 then (0,0) else if 0<milF (rouT t f.rou) then ofN p (citF p l) (milF (rouT t f.rou)) else (0,0)
 if x.2=0 then
  if (aplF f.amt x.1).2=0 then payF (rulT t f.rul) s (aplF f.amt x.1).1 else (0,(aplF f.amt x.1).2)
 else (0,x.2)
noncomputable def amtN (p:Plc) (t:Trf) (k:Int) (l:List Wnt) (s:ByteArray):Int×Int:=if outF t k l then (0,2) else amtG p t (farA t k) l s
theorem rul_lit15 (o:Option Rul):∃x0 x1 x2 x3 x4 x5 x6 x7 x8 x9 x10 x11 x12 x13 x14:D,rulD o=.agg [x0,x1,x2,x3,x4,x5,x6,x7,x8,x9,x10,x11,x12,x13,x14]/\[x0,x1,x2,x3,x4,x5,x6,x7,x8,x9,x10,x11,x12,x13,x14].all D.one=true:=by
 obtain⟨c0,c1,c2,c3,c4,c5,c6,c7,c8,c9,c10,c11,c12,c13,d,h,hf,ho⟩:=rul_litP o
 refine⟨_,_,_,_,_,_,_,_,_,_,_,_,_,_,_,h,?_⟩
 simp only[List.all_cons,List.all_nil,Yj,Ye]at ho ⊢
 have:=fls_one hf
 simp only[ho,this,WY]
theorem pctF_in {x h:Int} (hx:0<=x) (hh:0<=h):0<=(pctF x h).1/\(pctF x h).1<=1099511627776:=by
 have:=Int.mul_nonneg hx hh
 unfold pctF
 repeat' split
 all_goals (constructor <;> omega)
theorem aplF_in {x k:Int} (hx:0<=x):0<=(aplF x k).1/\(aplF x k).1<=1099511627776:=by
 unfold aplF
 split
 ·constructor <;> omega
 ·exact pctF_in hx (by omega)
theorem payF_in {o:Option Rul} {s:ByteArray} {x:Int} (hx:0<=x) (hp:∀p∈pcsL o,0<=p.2/\p.2<=1000):0<=(payF o s x).1/\(payF o s x).1<=1099511627776:=by
 unfold payF
 split
 ·exact pctF_in hx (by omega)
 ·rename_i p h
  have:=hp p (List.mem_of_find?_eq_some h)
  exact pctF_in hx (by omega)
theorem pcsL_of {t:Trf} (ht:TrG t) (k:Int):(pcsL (rulT t k)).length<=1048576/\∀p∈pcsL (rulT t k),0<=p.2/\p.2<=1000:=by
 unfold pcsL rulT
 cases h:t.rules.find? λr=>decide (r.num=k) with
 |none=>exact⟨Xb _,λp hp=>by cases hp⟩
 |some r=>exact⟨ht.pl r (List.mem_of_find?_eq_some h),ht.pc r (List.mem_of_find?_eq_some h)⟩
theorem farA_amt {t:Trf} (ht:TrG t) (k:Int):0<=(farA t k).amt:=by
 unfold farA
 cases h:t.fares[k.toNat]? with
 |none=>exact Int.le_refl _
 |some f=>exact (ht.am f (Yg h)).1
theorem amtN_in {p:Plc} {t:Trf} (ht:TrG t) (k:Int) (l:List Wnt) (s:ByteArray):0<=(amtN p t k l s).1/\(amtN p t k l s).1<=1099511627776:=by
 have hf:=farA_amt ht k
 have hr:=(pcsL_of ht (farA t k).rul).2
 have z0:(0:Int)<=0/\(0:Int)<=1099511627776:=by decide
 unfold amtN
 split
 ·exact z0
 ·unfold amtG
  generalize (if (farA t k).rou=0 then ((0:Int),(0:Int)) else if 0<milF (rouT t (farA t k).rou) then ofN p (citF p l) (milF (rouT t (farA t k).rou)) else (0,0))=x
  dsimp only
  split
  ·split
   ·exact payF_in (aplF_in hf).1 hr
   ·exact z0
  ·exact z0
section
variable {n : Nat}
theorem PWhy_x {p:Plc} (hp:PlG p) {t:Trf} (ht:TrG t) (k:Int) (l:List Wnt) (lx:Bool) (hl:l.length<=900) (s:ByteArray) (sale:Int) (hn:60000000<=n):∀st S,callD E (dcall E n) st S 28 [.agg p.enc,.agg t.enc,.int .i64 k,.sl 8 (l.map Wnt.enc) lx,.str s,.int .i64 sale]=some (.int .i64 (whyN p t k l s sale),S):=by
 obtain⟨m,rfl⟩:∃m,n=m+1:=⟨n-1,by omega⟩
 have hpp:pureL [.agg p.enc,.agg t.enc,.int .i64 k,.sl 8 (l.map Wnt.enc) lx,.str s,.int .i64 sale]=true:=by simp only[pureL_cons,pureL_nil,Plc_pure,Trf_pure,Wnts_pure,D.pure,Yj]
 have cfa:=Pfare_x (n:=m) t k l lx (by omega)
 obtain⟨z,hz⟩:∃z,z=whyN p t k l s sale:=⟨_,rfl⟩
 rw[<-hz]
 unfold whyN at hz
 rw[show ((t.fares[k.toNat]?).getD zeFar)=farA t k from rfl]at cfa
 have cru:=PRule_x (n:=m) (t.fares.map Far.enc) (t.rous.map Rou.enc) (t.taxes.map Tx.enc) t.fx t.ox t.tx t.rules t.rx (Fars_pure _) (Rous_pure _) (Txs_pure _) ht.rl (by omega) (farA t k).rul
 have cend:=λcs cx h1 h2=>PEnds_x (n:=m) (farA t k) l lx (by omega) cs cx h1 h2 (by omega)
 have cwy:=λcs cx h1=>Pway_x (n:=m) hp ht (farA t k) cs cx h1 (by omega)
 have ccl:=λ{ck:Nat} {S:List Ob} (h:S[ck]?=some (.row 9 [(farA t k).enc]))=>PCtW_c (n:=m) (f:=farA t k) (l:=l) (lx:=lx) (by omega) (by omega) h
 rw[show (t.rules.find? λr=>decide (r.num=(farA t k).rul))=rulT t (farA t k).rul from rfl]at cru
 have:WO (dcall E (m+1) 28 [.agg p.enc,.agg t.enc,.int .i64 k,.sl 8 (l.map Wnt.enc) lx,.str s,.int .i64 sale] []) λr T=>r=.int .i64 z:=by
  clear hpp
  by_cases ho:outF t k l
  ·rw[if_pos ho]at hz
   subst hz
   unfold outF at ho
   rw[Yn ho,if_pos ho]at cfa
   simp only[Plc.enc,Trf.enc,Far.enc]at cfa ⊢
   refine wo_dcall Tryz.func28 rfl (by decide) rfl 63 rfl (λa hal ha=>?_)
   have h0:a[0]?=some _:=ha 0 (by simp)
   have h1:a[1]?=some _:=ha 1 (by simp)
   have h2:a[2]?=some _:=ha 2 (by simp)
   have h3:a[3]?=some _:=ha 3 (by simp)
   have h4:a[4]?=some _:=ha 4 (by simp)
   have h5:a[5]?=some _:=ha 5 (by simp)
   clear ha
   simp only[push_cast,hal,h0,h1,h2,h3,cfa,Tryz.f28,↓WX,simprocAttr,WY]
  rw[if_neg ho]at hz
  unfold outF at ho
  rw[Ym ho,if_neg ho]at cfa
  have hl0:l≠[]:=λh=>ho (.inl (by rw[h];rfl))
  clear ho
  unfold whyG at hz
  generalize farA t k=f at*
  obtain⟨cs,cx,hcs,hcl,cci⟩:=PCities_c (n:=m) p hp.apl l lx (by omega) hl0 (by omega)
  rw[<-hcs]at hz
  have cend:=cend cs cx (by omega) (by omega)
  have cwy:=cwy cs cx (by omega)
  obtain⟨y6,y7,yv,hok,ctr⟩:=PTrip_x (n:=m) p hp.apl hp.sh l lx hl hl0 s sale (by omega)
  have cal:=PAllows21_x (n:=m) hok (rulT t f.rul) (λr hr=>ht.cn r (List.mem_of_find?_eq_some hr)) (by omega)
  obtain⟨x0,x1,x2,x3,x4,x5,x6,x7,x8,x9,x10,x11,x12,x13,x14,hrd,hone⟩:=rul_lit15 (rulT t f.rul)
  rw[hrd]at cru cal
  simp only[List.all_cons,List.all_nil,Yj,Ye,D.one]at hone
  obtain⟨r0,r1,r2,r3,r4,r5,r6,r7,r8,r9,r10,r11,r12,r13,r14⟩:=hone
  generalize (rulT t f.rul).isSome=bs at cru
  generalize alwP (rulT t f.rul) (tripP p l s sale)=al at*
  have oy6:=fls_one hok.hx
  have oy7:=fls_one hok.hy
  have oyv:=fls_one hok.hz
  simp only[D.one]at oy6 oy7 oyv
  generalize tripP p l s sale=tp at*
  generalize wyN p t f cs=wy at*
  generalize endF f l cs=eb at*
  generalize (l.any λq=> !decide (q.cls=f.cls))=cb at*
  simp only[Plc.enc,Trf.enc,Far.enc,Trp.enc]at cfa cru cend cwy cci ctr cal ccl ⊢
  clear hrd hok
  refine wo_dcall Tryz.func28 rfl (by decide) rfl 63 rfl (λa hal ha=>?_)
  have h0:a[0]?=some _:=ha 0 (by simp)
  have h1:a[1]?=some _:=ha 1 (by simp)
  have h2:a[2]?=some _:=ha 2 (by simp)
  have h3:a[3]?=some _:=ha 3 (by simp)
  have h4:a[4]?=some _:=ha 4 (by simp)
  have h5:a[5]?=some _:=ha 5 (by simp)
  clear ha
  obtain⟨V0,hV0⟩:∃V0:List Ob,V0=[Ob.row 2 [[.sl 5 (p.aps.map Apt.enc) p.apsx,.sl 3 (p.dts.map Dst.enc) p.dtsx]],Ob.row 4 [[.sl 9 (t.fares.map Far.enc) t.fx,.sl 15 (t.rules.map Rul.enc) t.rx,.sl 3 (t.rous.map Rou.enc) t.ox,.sl 7 (t.taxes.map Tx.enc) t.tx]],Ob.row 9 [[.str f.car,.str f.frm,.str f.dst,.str f.bas,.str f.cls,.bool f.rnd,.int .i64 f.amt,.int .i64 f.rul,.int .i64 f.rou]]]:=⟨_,rfl⟩
  have g0:V0[0]?=some (Ob.row 2 [[.sl 5 (p.aps.map Apt.enc) p.apsx,.sl 3 (p.dts.map Dst.enc) p.dtsx]]):=by rw[hV0];rfl
  have g1:V0[1]?=some (Ob.row 4 [[.sl 9 (t.fares.map Far.enc) t.fx,.sl 15 (t.rules.map Rul.enc) t.rx,.sl 3 (t.rous.map Rou.enc) t.ox,.sl 7 (t.taxes.map Tx.enc) t.tx]]):=by rw[hV0];rfl
  have g2:V0[2]?=some (Ob.row 9 [[.str f.car,.str f.frm,.str f.dst,.str f.bas,.str f.cls,.bool f.rnd,.int .i64 f.amt,.int .i64 f.rul,.int .i64 f.rou]]):=by rw[hV0];rfl
  obtain⟨T2,ccl,hx2⟩:=ccl g2
  refine wc_scut (λa V=>V=[Ob.row 2 [[.sl 5 (p.aps.map Apt.enc) p.apsx,.sl 3 (p.dts.map Dst.enc) p.dtsx]],Ob.row 4 [[.sl 9 (t.fares.map Far.enc) t.fx,.sl 15 (t.rules.map Rul.enc) t.rx,.sl 3 (t.rous.map Rou.enc) t.ox,.sl 7 (t.taxes.map Tx.enc) t.tx]]]/\a.length=63/\a[2]?=some (.int .i64 k)/\a[3]?=some (.sl 8 (l.map Wnt.enc) lx)/\a[4]?=some (.str s)/\a[5]?=some (.int .i64 sale)/\a[6]?=some (.loc 0 0 0)/\a[7]?=some (.loc 1 0 0)) ?_ ?_
  ·simp only[push_cast,hal,h0,h1,h2,h3,h4,h5,↓WX,simprocAttr]
  rintro a V ⟨hV,hal,h2,h3,h4,h5,h6,h7⟩
  have v1:V[1]?=some (Ob.row 4 [[.sl 9 (t.fares.map Far.enc) t.fx,.sl 15 (t.rules.map Rul.enc) t.rx,.sl 3 (t.rous.map Rou.enc) t.ox,.sl 7 (t.taxes.map Tx.enc) t.tx]]):=by rw[hV];rfl
  have vl:V.length=2:=by rw[hV];rfl
  have hVV:V++[Ob.row 9 [[.str f.car,.str f.frm,.str f.dst,.str f.bas,.str f.cls,.bool f.rnd,.int .i64 f.amt,.int .i64 f.rul,.int .i64 f.rou]]]=V0:=by rw[hV,hV0];rfl
  clear hV hV0
  refine wc_scut (λa W=>W=V0/\a.length=63/\a[3]?=some (.sl 8 (l.map Wnt.enc) lx)/\a[4]?=some (.str s)/\a[5]?=some (.int .i64 sale)/\a[6]?=some (.loc 0 0 0)/\a[7]?=some (.loc 1 0 0)/\a[13]?=some (.loc 2 0 0)/\a[14]?=some (.bool true)) ?_ ?_
  ·simp only[push_cast,hal,h2,h3,h4,h5,h6,h7,v1,cfa,set_end,get_end,↓WX,simprocAttr,WY]
   exact⟨hVV,by rw[vl]⟩
  clear v1 vl hVV V
  rintro a V ⟨rfl,hal,h3,h4,h5,h6,h7,h13,h14⟩
  refine wc_scut (λa W=>W=V/\a.length=63/\a[3]?=some (.sl 8 (l.map Wnt.enc) lx)/\a[4]?=some (.str s)/\a[5]?=some (.int .i64 sale)/\a[6]?=some (.loc 0 0 0)/\a[7]?=some (.loc 1 0 0)/\a[13]?=some (.loc 2 0 0)) ?_ ?_
  ·simp only[push_cast,hal,h3,h4,h5,h6,h7,h13,h14,↓WX,simprocAttr,WY]
  rintro a W ⟨rfl,hal,h3,h4,h5,h6,h7,h13⟩
  refine wc_scut (λa V=>V=W/\a.length=63/\a[3]?=some (.sl 8 (l.map Wnt.enc) lx)/\a[4]?=some (.str s)/\a[5]?=some (.int .i64 sale)/\a[6]?=some (.loc 0 0 0)/\a[7]?=some (.loc 1 0 0)/\a[13]?=some (.loc 2 0 0)/\a[15]?=some (.sl 1 (cs.map Cnd.encT) cx)) ?_ ?_
  ·simp only[push_cast,hal,h3,h4,h5,h6,h7,h13,g0,cci,↓WX,simprocAttr]
  rintro a V ⟨rfl,hal,h3,h4,h5,h6,h7,h13,h15⟩
  cases eb
  ·have hz:z=19:=hz
   subst hz
   simp only[push_cast,hal,h3,h13,h15,g2,cend,Tryz.f28,↓WX,simprocAttr,WY]
  rw[if_pos rfl]at hz
  cases cb
  case true=>
   rw[if_pos rfl]at hz
   subst hz
   simp only[push_cast,hal,h3,h13,h15,g2,cend,ccl,Tryz.f28,↓WX,simprocAttr,WY]
  rw[if_neg (by simp)]at hz
  refine wc_scut (λa W=>W=T2/\a.length=63/\a[3]?=some (.sl 8 (l.map Wnt.enc) lx)/\a[4]?=some (.str s)/\a[5]?=some (.int .i64 sale)/\a[6]?=some (.loc 0 0 0)/\a[7]?=some (.loc 1 0 0)/\a[13]?=some (.loc 2 0 0)/\a[15]?=some (.sl 1 (cs.map Cnd.encT) cx)) ?_ ?_
  ·simp only[push_cast,hal,h3,h4,h5,h6,h7,h13,h15,g2,cend,ccl,↓WX,simprocAttr,WY]
  have t0:=hx2 _ _ g0
  have t1:=hx2 _ _ g1
  have t2:=hx2 _ _ g2
  clear ccl hx2 g0 g1 g2
  rintro a W ⟨rfl,hal,h3,h4,h5,h6,h7,h13,h15⟩
  refine wc_scut (λa V=>V=W++[Ob.row 15 [[x0,x1,x2,x3,x4,x5,x6,x7,x8,x9,x10,x11,x12,x13,x14]]]/\a.length=63/\a[3]?=some (.sl 8 (l.map Wnt.enc) lx)/\a[4]?=some (.str s)/\a[5]?=some (.int .i64 sale)/\a[6]?=some (.loc 0 0 0)/\a[7]?=some (.loc 1 0 0)/\a[13]?=some (.loc 2 0 0)/\a[15]?=some (.sl 1 (cs.map Cnd.encT) cx)/\a[16]?=some (.loc W.length 0 0)) ?_ ?_
  ·simp only[push_cast,hal,h3,h4,h5,h6,h7,h13,h15,t1,t2,cru,set_end,get_end,r0,r1,r2,r3,r4,r5,r6,r7,r8,r9,r10,r11,r12,r13,r14,↓WX,simprocAttr]
  rintro a V ⟨hV,hal,h3,h4,h5,h6,h7,h13,h15,h16⟩
  have w0:V[0]?=some (Ob.row 2 [[.sl 5 (p.aps.map Apt.enc) p.apsx,.sl 3 (p.dts.map Dst.enc) p.dtsx]]):=by rw[hV];exact get_old t0
  have w1:V[1]?=some (Ob.row 4 [[.sl 9 (t.fares.map Far.enc) t.fx,.sl 15 (t.rules.map Rul.enc) t.rx,.sl 3 (t.rous.map Rou.enc) t.ox,.sl 7 (t.taxes.map Tx.enc) t.tx]]):=by rw[hV];exact get_old t1
  have w2:V[2]?=some (Ob.row 9 [[.str f.car,.str f.frm,.str f.dst,.str f.bas,.str f.cls,.bool f.rnd,.int .i64 f.amt,.int .i64 f.rul,.int .i64 f.rou]]):=by rw[hV];exact get_old t2
  have wr:V[W.length]?=some (Ob.row 15 [[x0,x1,x2,x3,x4,x5,x6,x7,x8,x9,x10,x11,x12,x13,x14]]):=by rw[hV];exact get_end
  clear hV t0 t1 t2
  refine wc_rcut (λa W'=>(W'=V/\al=0)/\a.length=63/\a[6]?=some (.loc 0 0 0)/\a[7]?=some (.loc 1 0 0)/\a[13]?=some (.loc 2 0 0)/\a[15]?=some (.sl 1 (cs.map Cnd.encT) cx)) ?_ ?_
  ·by_cases c2:al=0
   ·simp only[push_cast,hal,h3,h4,h5,h6,h7,h13,h15,h16,w0,wr,ctr,cal,c2,↓WX,simprocAttr,WY]
   ·rw[if_neg c2]at hz
    subst hz
    simp only[push_cast,hal,h3,h4,h5,h6,h16,w0,wr,ctr,cal,c2,Tryz.f28,↓WX,simprocAttr,WY]
  rintro a W' ⟨⟨rfl,c2⟩,hal,h6,h7,h13,h15⟩
  rw[if_pos c2]at hz
  subst hz
  simp only[push_cast,hal,h6,h7,h13,h15,w0,w1,w2,cwy,Tryz.f28,↓WX,simprocAttr]
 obtain⟨_,T,hr,rfl⟩:=this
 exact λst S=>callD_pure rfl hpp hr rfl
theorem PAmount_x {p:Plc} (hp:PlG p) {t:Trf} (ht:TrG t) (k:Int) (l:List Wnt) (lx:Bool) (hl:l.length<=900) (s:ByteArray) (hn:60000000<=n):∀st S,callD E (dcall E n) st S 29 [.agg p.enc,.agg t.enc,.int .i64 k,.sl 8 (l.map Wnt.enc) lx,.str s]=some (.tup [.int .i64 (amtN p t k l s).1,.int .i64 (amtN p t k l s).2],S):=by
 obtain⟨m,rfl⟩:∃m,n=m+1:=⟨n-1,by omega⟩
 have hpp:pureL [.agg p.enc,.agg t.enc,.int .i64 k,.sl 8 (l.map Wnt.enc) lx,.str s]=true:=by simp only[pureL_cons,pureL_nil,Plc_pure,Trf_pure,Wnts_pure,D.pure,Yj]
 have cfa:=Pfare_x (n:=m) t k l lx (by omega)
 obtain⟨z,hz⟩:∃z,z=amtN p t k l s:=⟨_,rfl⟩
 rw[<-hz]
 unfold amtN at hz
 have hfa:=farA_amt ht k
 rw[show ((t.fares[k.toNat]?).getD zeFar)=farA t k from rfl]at cfa
 have cru:=PRule_x (n:=m) (t.fares.map Far.enc) (t.rous.map Rou.enc) (t.taxes.map Tx.enc) t.fx t.ox t.tx t.rules t.rx (Fars_pure _) (Rous_pure _) (Txs_pure _) ht.rl (by omega) (farA t k).rul
 rw[show (t.rules.find? λr=>decide (r.num=(farA t k).rul))=rulT t (farA t k).rul from rfl]at cru
 have cro:=PRouting_x (n:=m) (t.fares.map Far.enc) (t.rules.map Rul.enc) (t.taxes.map Tx.enc) t.fx t.rx t.tx t.rous t.ox (Fars_pure _) (Ruls_pure _) (Txs_pure _) ht.ol (by omega) (farA t k).rou
 rw[show (t.rous.find? λr=>decide (r.num=(farA t k).rou))=rouT t (farA t k).rou from rfl]at cro
 have cpy:=λx hx=>PPay_x (n:=m) (rulT t (farA t k).rul) (pcsL_of ht _).1 (pcsL_of ht _).2 s x hx (by omega)
 have cap:=λy=>PApply_x (n:=m) (farA t k).amt y hfa (by omega)
 have hai:=λy=>(aplF_in (x:=(farA t k).amt) (k:=y) hfa).1
 have:WO (dcall E (m+1) 29 [.agg p.enc,.agg t.enc,.int .i64 k,.sl 8 (l.map Wnt.enc) lx,.str s] []) λr T=>r=.tup [.int .i64 z.1,.int .i64 z.2]:=by
  clear hpp
  by_cases ho:outF t k l
  ·rw[if_pos ho]at hz
   subst hz
   unfold outF at ho
   rw[Yn ho,if_pos ho]at cfa
   simp only[Plc.enc,Trf.enc,Far.enc]at cfa ⊢
   refine wo_dcall Tryz.func29 rfl (by decide) rfl 82 rfl (λa hal ha=>?_)
   have h0:a[0]?=some _:=ha 0 (by simp)
   have h1:a[1]?=some _:=ha 1 (by simp)
   have h2:a[2]?=some _:=ha 2 (by simp)
   have h3:a[3]?=some _:=ha 3 (by simp)
   have h4:a[4]?=some _:=ha 4 (by simp)
   clear ha
   simp only[push_cast,hal,h0,h1,h2,h3,cfa,Tryz.f29,↓WX,simprocAttr,WY]
  rw[if_neg ho]at hz
  unfold outF at ho
  rw[Ym ho,if_neg ho]at cfa
  have hl0:l≠[]:=λh=>ho (.inl (by rw[h];rfl))
  clear ho
  unfold amtG at hz
  generalize farA t k=f at*
  obtain⟨cs,cx,hcs,hcl,cci⟩:=PCities_c (n:=m) p hp.apl l lx (by omega) hl0 (by omega)
  rw[<-hcs]at hz
  have cof:=POf_x (n:=m) hp cs cx (by omega) (milF (rouT t f.rou)) (by omega)
  obtain⟨x0,x1,x2,x3,x4,x5,x6,x7,x8,x9,x10,x11,x12,x13,x14,hrd,hone⟩:=rul_lit15 (rulT t f.rul)
  rw[hrd]at cru cpy
  simp only[List.all_cons,List.all_nil,Yj,Ye,D.one]at hone
  obtain⟨r0,r1,r2,r3,r4,r5,r6,r7,r8,r9,r10,r11,r12,r13,r14⟩:=hone
  generalize (rulT t f.rul).isSome=bs at cru
  generalize (rouT t f.rou).isSome=bo at cro
  obtain⟨u0,u1,hro,q0,q1⟩:=rou_litM (rouT t f.rou)
  rw[hro]at cro
  simp only[D.one]at q0 q1
  generalize payF (rulT t f.rul) s=py at*
  generalize milF (rouT t f.rou)=mf at*
  generalize ofN p cs mf=om at*
  generalize aplF f.amt=ap at*
  simp only[Plc.enc,Trf.enc,Far.enc]at cfa cru cro cci cof ⊢
  clear hrd hro
  obtain⟨o1,o2⟩:=om
  obtain⟨x,hx⟩:∃x:Int×Int,x=(if f.rou=0 then (0,0) else if 0<mf then (o1,o2) else (0,0)):=⟨_,rfl⟩
  dsimp only at hz
  rw[<-hx]at hz
  refine wo_dcall Tryz.func29 rfl (by decide) rfl 82 rfl (λa hal ha=>?_)
  have h0:a[0]?=some _:=ha 0 (by simp)
  have h1:a[1]?=some _:=ha 1 (by simp)
  have h2:a[2]?=some _:=ha 2 (by simp)
  have h3:a[3]?=some _:=ha 3 (by simp)
  have h4:a[4]?=some _:=ha 4 (by simp)
  clear ha
  obtain⟨V0,hV0⟩:∃V0:List Ob,V0=[Ob.row 2 [[.sl 5 (p.aps.map Apt.enc) p.apsx,.sl 3 (p.dts.map Dst.enc) p.dtsx]],Ob.row 4 [[.sl 9 (t.fares.map Far.enc) t.fx,.sl 15 (t.rules.map Rul.enc) t.rx,.sl 3 (t.rous.map Rou.enc) t.ox,.sl 7 (t.taxes.map Tx.enc) t.tx]],Ob.row 9 [[.str f.car,.str f.frm,.str f.dst,.str f.bas,.str f.cls,.bool f.rnd,.int .i64 f.amt,.int .i64 f.rul,.int .i64 f.rou]]]:=⟨_,rfl⟩
  have g0:V0[0]?=some (Ob.row 2 [[.sl 5 (p.aps.map Apt.enc) p.apsx,.sl 3 (p.dts.map Dst.enc) p.dtsx]]):=by rw[hV0];rfl
  have g1:V0[1]?=some (Ob.row 4 [[.sl 9 (t.fares.map Far.enc) t.fx,.sl 15 (t.rules.map Rul.enc) t.rx,.sl 3 (t.rous.map Rou.enc) t.ox,.sl 7 (t.taxes.map Tx.enc) t.tx]]):=by rw[hV0];rfl
  have g2:V0[2]?=some (Ob.row 9 [[.str f.car,.str f.frm,.str f.dst,.str f.bas,.str f.cls,.bool f.rnd,.int .i64 f.amt,.int .i64 f.rul,.int .i64 f.rou]]):=by rw[hV0];rfl
  refine wc_scut (λa V=>V=[Ob.row 2 [[.sl 5 (p.aps.map Apt.enc) p.apsx,.sl 3 (p.dts.map Dst.enc) p.dtsx]],Ob.row 4 [[.sl 9 (t.fares.map Far.enc) t.fx,.sl 15 (t.rules.map Rul.enc) t.rx,.sl 3 (t.rous.map Rou.enc) t.ox,.sl 7 (t.taxes.map Tx.enc) t.tx]]]/\a.length=82/\a[2]?=some (.int .i64 k)/\a[3]?=some (.sl 8 (l.map Wnt.enc) lx)/\a[4]?=some (.str s)/\a[5]?=some (.loc 0 0 0)/\a[6]?=some (.loc 1 0 0)) ?_ ?_
  ·simp only[push_cast,hal,h0,h1,h2,h3,h4,↓WX,simprocAttr]
  rintro a V ⟨hV,hal,h2,h3,h4,h5,h6⟩
  have v1:V[1]?=some (Ob.row 4 [[.sl 9 (t.fares.map Far.enc) t.fx,.sl 15 (t.rules.map Rul.enc) t.rx,.sl 3 (t.rous.map Rou.enc) t.ox,.sl 7 (t.taxes.map Tx.enc) t.tx]]):=by rw[hV];rfl
  have vl:V.length=2:=by rw[hV];rfl
  have hVV:V++[Ob.row 9 [[.str f.car,.str f.frm,.str f.dst,.str f.bas,.str f.cls,.bool f.rnd,.int .i64 f.amt,.int .i64 f.rul,.int .i64 f.rou]]]=V0:=by rw[hV,hV0];rfl
  clear hV hV0
  refine wc_scut (λa W=>W=V0/\a.length=82/\a[3]?=some (.sl 8 (l.map Wnt.enc) lx)/\a[4]?=some (.str s)/\a[5]?=some (.loc 0 0 0)/\a[6]?=some (.loc 1 0 0)/\a[12]?=some (.loc 2 0 0)/\a[13]?=some (.bool true)) ?_ ?_
  ·simp only[push_cast,hal,h2,h3,h4,h5,h6,v1,cfa,set_end,get_end,↓WX,simprocAttr,WY]
   exact⟨hVV,by rw[vl]⟩
  clear v1 vl hVV V
  rintro a V ⟨rfl,hal,h3,h4,h5,h6,h12,h13⟩
  refine wc_scut (λa W=>W=V/\a.length=82/\a[3]?=some (.sl 8 (l.map Wnt.enc) lx)/\a[4]?=some (.str s)/\a[5]?=some (.loc 0 0 0)/\a[6]?=some (.loc 1 0 0)/\a[12]?=some (.loc 2 0 0)) ?_ ?_
  ·simp only[push_cast,hal,h3,h4,h5,h6,h12,h13,↓WX,simprocAttr,WY]
  rintro a W ⟨rfl,hal,h3,h4,h5,h6,h12⟩
  refine wc_scut (λa V=>V=W/\a.length=82/\a[3]?=some (.sl 8 (l.map Wnt.enc) lx)/\a[4]?=some (.str s)/\a[5]?=some (.loc 0 0 0)/\a[6]?=some (.loc 1 0 0)/\a[12]?=some (.loc 2 0 0)/\a[14]?=some (.int .i64 0)) ?_ ?_
  ·simp only[push_cast,hal,h3,h4,h5,h6,h12,↓WX,simprocAttr]
  rintro a V ⟨rfl,hal,h3,h4,h5,h6,h12,h14⟩
  refine wc_rcut (λa T=>(ExtS V T/\x.2=0)/\a.length=82/\a[4]?=some (.str s)/\a[6]?=some (.loc 1 0 0)/\a[12]?=some (.loc 2 0 0)/\a[14]?=some (.int .i64 x.1)) ?_ ?_
  ·by_cases c2:f.rou=0
   ·rw[if_pos c2]at hx
    subst hx
    simp only[push_cast,hal,h4,h6,h12,h14,g2,c2,↓WX,simprocAttr,WY]
    exact ExtS.refl
   rw[if_neg c2]at hx
   by_cases c3:0<mf
   ·rw[if_pos c3]at hx
    subst hx
    dsimp only at*
    by_cases c4:o2=0
    ·subst c4
     simp only[push_cast,Zx,hal,h3,h4,h5,h6,h12,g1,g2,c2,c3,cro,cci,cof,q0,q1,set_end,get_end,get_old g0,↓WX,simprocAttr,WY]
     exact ExtS.refl.push _
    ·rw[if_neg c4]at hz
     subst hz
     simp only[push_cast,Zx,hal,h3,h5,h6,h12,g1,g2,c2,c3,c4,cro,cci,cof,q0,q1,set_end,get_end,get_old g0,Tryz.f29,↓WX,simprocAttr,WY]
   ·rw[if_neg c3]at hx
    subst hx
    simp only[push_cast,Zx,hal,h4,h6,h12,h14,g1,g2,c2,c3,cro,q0,q1,set_end,get_end,↓WX,simprocAttr,WY]
    exact ExtS.refl.push _
  rintro a T ⟨⟨hxT,c4⟩,hal,h4,h6,h12,h14⟩
  rw[if_pos c4]at hz
  have t1:=hxT _ _ g1
  have t2:=hxT _ _ g2
  have cap:=cap x.1
  have hai:=hai x.1
  generalize ap x.1=y at*
  obtain⟨y1,y2⟩:=y
  dsimp only at cap hz hai
  generalize x.1=xv at*
  clear hx c4 g0 g1 g2
  refine wc_scut (λa T'=>T'=T/\a.length=82/\a[4]?=some (.str s)/\a[6]?=some (.loc 1 0 0)/\a[12]?=some (.loc 2 0 0)/\a[19]?=some (.int .i64 y1)/\a[20]?=some (.int .i64 y2)) ?_ ?_
  ·simp only[push_cast,hal,h4,h6,h12,h14,t2,cap,↓WX,simprocAttr]
  rintro a T' ⟨rfl,hal,h4,h6,h12,h19,h20⟩
  by_cases c5:y2=0
  case neg=>
   rw[if_neg c5]at hz
   subst hz
   simp only[push_cast,hal,h20,c5,Tryz.f29,↓WX,simprocAttr,WY]
  rw[if_pos c5]at hz
  have cpy:=cpy y1 hai
  rw[<-hz]at cpy
  simp only[push_cast,hal,h4,h6,h12,h19,h20,t1,t2,c5,cru,cpy,set_end,get_end,r0,r1,r2,r3,r4,r5,r6,r7,r8,r9,r10,r11,r12,r13,r14,Tryz.f29,↓WX,simprocAttr,WY]
 obtain⟨_,T,hr,rfl⟩:=this
 exact λst S=>callD_pure rfl hpp hr rfl
end
end Go.Proofs.YtaklebjoenophaaGreat.Dm
