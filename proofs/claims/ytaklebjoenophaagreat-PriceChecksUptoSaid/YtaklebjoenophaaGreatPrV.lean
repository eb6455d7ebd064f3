/-
  Why a fare does not apply to segments, and what it costs: the program, exactly.
  The reference's ways, their surcharges, routings and what passengers pay, exactly.
-/
import Derived.Test.YtaklebjoenophaaGreatPrT
import Derived.Test.YtaklebjoenophaaGreatPrK
set_option maxHeartbeats 64000000
set_option maxRecDepth 100000
set_option linter.unusedSimpArgs false
set_option linter.unusedVariables false
namespace Go.Proofs.YtaklebjoenophaaGreat.Dm
open Go Gw
def farA (t:Trf) (k:Int):Far:=(t.fares[k.toNat]?).getD zeFar
def outF (t:Trf) (k:Int) (l:List Wnt):Prop:=l.length=0∨k<0∨(t.fares.length:Int)<=k
instance (t:Trf) (k:Int) (l:List Wnt):Decidable (outF t k l):=inferInstanceAs (Decidable (_∨_))
noncomputable def whyG (p:Plc) (t:Trf) (f:Far) (l:List Wnt) (s:ByteArray) (sale:Int):Int:=
 if endF f l (citF p l)=true then
  if (l.any λq=> !decide (q.cls=f.cls))=true then 16
  else if alwP (rulT t f.rul) (tripP p l s sale)=0 then wyN p t f (citF p l) else alwP (rulT t f.rul) (tripP p l s sale)
 else 19
noncomputable def whyN (p:Plc) (t:Trf) (k:Int) (l:List Wnt) (s:ByteArray) (sale:Int):Int:=if outF t k l then 2 else whyG p t (farA t k) l s sale
noncomputable def amtG (p:Plc) (t:Trf) (f:Far) (l:List Wnt) (s:ByteArray):Int×Int:=
 let x:Int×Int:=if f.rou=0 then (0,0) else if 0<milF (rouT t f.rou) then ofN p (citF p l) (milF (rouT t f.rou)) else (0,0)
 if x.2=0 then
  if (aplF f.amt x.1).2=0 then payF (rulT t f.rul) s (aplF f.amt x.1).1 else (0,(aplF f.amt x.1).2)
 else (0,x.2)
noncomputable def amtN (p:Plc) (t:Trf) (k:Int) (l:List Wnt) (s:ByteArray):Int×Int:=if outF t k l then (0,2) else amtG p t (farA t k) l s
theorem rul_lit15 (o:Option Rul):∃x0 x1 x2 x3 x4 x5 x6 x7 x8 x9 x10 x11 x12 x13 x14:D,rulD o=.agg [x0,x1,x2,x3,x4,x5,x6,x7,x8,x9,x10,x11,x12,x13,x14]/\[x0,x1,x2,x3,x4,x5,x6,x7,x8,x9,x10,x11,x12,x13,x14].all D.one=true:=by
 obtain⟨c0,c1,c2,c3,c4,c5,c6,c7,c8,c9,c10,c11,c12,c13,d,h,hf,ho⟩:=rul_litP o
 refine⟨_,_,_,_,_,_,_,_,_,_,_,_,_,_,_,h,?_⟩
 simp only[List.all_cons,List.all_nil,Ua,Kv]at ho ⊢
 have:=Yv hf
 simp only[ho,this,WY]
theorem pctF_in {x h:Int} (hx:0<=x) (hh:0<=h):0<=(pctF x h).1/\(pctF x h).1<=1099511627776:=by
 have:=Int.mul_nonneg hx hh
 unfold pctF
 repeat' split
 all_goals (constructor <;> omega)
theorem aplF_in {x k:Int} (hx:0<=x):0<=(aplF x k).1/\(aplF x k).1<=1099511627776:=by
 unfold aplF
 split
 ·constructor <;> omega
 ·exact pctF_in hx (by omega)
theorem payF_in {o:Option Rul} {s:ByteArray} {x:Int} (hx:0<=x) (hp:∀p∈pcsL o,0<=p.2/\p.2<=1000):0<=(payF o s x).1/\(payF o s x).1<=1099511627776:=by
 unfold payF
 split
 ·exact pctF_in hx (by omega)
 ·rename_i p h
  have:=hp p (List.mem_of_find?_eq_some h)
  exact pctF_in hx (by omega)
theorem pcsL_of {t:Trf} (ht:TrG t) (k:Int):(pcsL (rulT t k)).length<=1048576/\∀p∈pcsL (rulT t k),0<=p.2/\p.2<=1000:=by
 unfold pcsL rulT
 cases h:t.rules.find? λr=>decide (r.num=k) with
 |none=>exact⟨Vt _,λp hp=>by cases hp⟩
 |some r=>exact⟨ht.pl r (List.mem_of_find?_eq_some h),ht.pc r (List.mem_of_find?_eq_some h)⟩
theorem farA_amt {t:Trf} (ht:TrG t) (k:Int):0<=(farA t k).amt:=by
 unfold farA
 cases h:t.fares[k.toNat]? with
 |none=>exact Int.le_refl _
 |some f=>exact (ht.am f (Kx h)).1
theorem amtN_in {p:Plc} {t:Trf} (ht:TrG t) (k:Int) (l:List Wnt) (s:ByteArray):0<=(amtN p t k l s).1/\(amtN p t k l s).1<=1099511627776:=by
 have hf:=farA_amt ht k
 have hr:=(pcsL_of ht (farA t k).rul).2
 have z0:(0:Int)<=0/\(0:Int)<=1099511627776:=by decide
 unfold amtN
 split
 ·exact z0
 ·unfold amtG
  generalize (if (farA t k).rou=0 then ((0:Int),(0:Int)) else if 0<milF (rouT t (farA t k).rou) then ofN p (citF p l) (milF (rouT t (farA t k).rou)) else (0,0))=x
  dsimp only
  split
  ·split
   ·exact payF_in (aplF_in hf).1 hr
   ·exact z0
  ·exact z0
section
variable {n : Nat}
theorem PWhy_x {p:Plc} (hp:PlG p) {t:Trf} (ht:TrG t) (k:Int) (l:List Wnt) (lx:Bool) (hl:l.length<=900) (s:ByteArray) (sale:Int) (hn:60000000<=n):∀st S,Yi E (Yb E n) st S 28 [.agg p.enc,.agg t.enc,.int .i64 k,.sl 8 (l.map Wnt.enc) lx,.str s,.int .i64 sale]=some (.int .i64 (whyN p t k l s sale),S):=by
 obtain⟨m,rfl⟩:∃m,n=m+1:=⟨n-1,by omega⟩
 have hpp:Yp [.agg p.enc,.agg t.enc,.int .i64 k,.sl 8 (l.map Wnt.enc) lx,.str s,.int .i64 sale]=true:=by simp only[Yc,Yg,Yt,Ja,Jd,D.pure,Ua]
 have cfa:=Pfare_x (n:=m) t k l lx (by omega)
 obtain⟨z,hz⟩:∃z,z=whyN p t k l s sale:=⟨_,rfl⟩
 rw[<-hz]
 unfold whyN at hz
 rw[show ((t.fares[k.toNat]?).getD zeFar)=farA t k from rfl]at cfa
 have cru:=PRule_x (n:=m) (t.fares.map Far.enc) (t.rous.map Rou.enc) (t.taxes.map Tx.enc) t.fx t.ox t.tx t.rules t.rx (Js _) (Jz _) (Jq _) ht.rl (by omega) (farA t k).rul
 have cend:=λcs cx h1 h2=>PEnds_x (n:=m) (farA t k) l lx (by omega) cs cx h1 h2 (by omega)
 have cwy:=λcs cx h1=>Pway_x (n:=m) hp ht (farA t k) cs cx h1 (by omega)
 have ccl:=λ{ck:Nat} {S:List Ob} (h:S[ck]?=some (.row 9 [(farA t k).enc]))=>PCtW_c (n:=m) (f:=farA t k) (l:=l) (lx:=lx) (by omega) (by omega) h
 rw[show (t.rules.find? λr=>decide (r.num=(farA t k).rul))=rulT t (farA t k).rul from rfl]at cru
 have:WO (Yb E (m+1) 28 [.agg p.enc,.agg t.enc,.int .i64 k,.sl 8 (l.map Wnt.enc) lx,.str s,.int .i64 sale] []) λr T=>r=.int .i64 z:=by
  clear hpp
  by_cases ho:outF t k l
  ·rw[if_pos ho]at hz
   subst hz
   unfold outF at ho
   rw[Ue ho,if_pos ho]at cfa
   simp only[Plc.enc,Trf.enc,Far.enc]at cfa ⊢
   refine Ye Tryz.func28 rfl (by decide) rfl 63 rfl (λa hal ha=>?_)
   obtain⟨h0,h1,h2,h3,h4,h5⟩:=aQ6 ha
   clear ha
   simp only[push_cast,hal,h0,h1,h2,h3,cfa,Tryz.f28,↓WX,simprocAttr,WY]
  rw[if_neg ho]at hz
  unfold outF at ho
  rw[Ud ho,if_neg ho]at cfa
  have hl0:l≠[]:=λh=>ho (.inl (by rw[h];rfl))
  clear ho
  unfold whyG at hz
  generalize farA t k=f at*
  obtain⟨cs,cx,hcs,hcl,cci⟩:=PCities_c (n:=m) p hp.apl l lx (by omega) hl0 (by omega)
  rw[<-hcs]at hz
  have cend:=cend cs cx (by omega) (by omega)
  have cwy:=cwy cs cx (by omega)
  obtain⟨y6,y7,yv,hok,ctr⟩:=PTrip_x (n:=m) p hp.apl hp.sh l lx hl hl0 s sale (by omega)
  have cal:=PAllows21_x (n:=m) hok (rulT t f.rul) (λr hr=>ht.cn r (List.mem_of_find?_eq_some hr)) (by omega)
  obtain⟨x0,x1,x2,x3,x4,x5,x6,x7,x8,x9,x10,x11,x12,x13,x14,hrd,hone⟩:=rul_lit15 (rulT t f.rul)
  rw[hrd]at cru cal
  simp only[List.all_cons,List.all_nil,Ua,Kv,D.one]at hone
  obtain⟨r0,r1,r2,r3,r4,r5,r6,r7,r8,r9,r10,r11,r12,r13,r14⟩:=hone
  generalize (rulT t f.rul).isSome=bs at cru
  generalize alwP (rulT t f.rul) (tripP p l s sale)=al at*
  have oy6:=Yv hok.hx
  have oy7:=Yv hok.hy
  have oyv:=Yv hok.hz
  simp only[D.one]at oy6 oy7 oyv
  generalize tripP p l s sale=tp at*
  generalize wyN p t f cs=wy at*
  generalize endF f l cs=eb at*
  generalize (l.any λq=> !decide (q.cls=f.cls))=cb at*
  simp only[Plc.enc,Trf.enc,Far.enc,Trp.enc]at cfa cru cend cwy cci ctr cal ccl ⊢
  clear hrd hok
  refine Ye Tryz.func28 rfl (by decide) rfl 63 rfl (λa hal ha=>?_)
  obtain⟨h0,h1,h2,h3,h4,h5⟩:=aQ6 ha
  clear ha
  obtain⟨V0,hV0⟩:∃V0:List Ob,V0=[Ob.row 2 [[.sl 5 (p.aps.map Apt.enc) p.apsx,.sl 3 (p.dts.map Dst.enc) p.dtsx]],Ob.row 4 [[.sl 9 (t.fares.map Far.enc) t.fx,.sl 15 (t.rules.map Rul.enc) t.rx,.sl 3 (t.rous.map Rou.enc) t.ox,.sl 7 (t.taxes.map Tx.enc) t.tx]],Ob.row 9 [[.str f.car,.str f.frm,.str f.dst,.str f.bas,.str f.cls,.bool f.rnd,.int .i64 f.amt,.int .i64 f.rul,.int .i64 f.rou]]]:=⟨_,rfl⟩
  have g0:V0[0]?=some (Ob.row 2 [[.sl 5 (p.aps.map Apt.enc) p.apsx,.sl 3 (p.dts.map Dst.enc) p.dtsx]]):=by rw[hV0];rfl
  have g1:V0[1]?=some (Ob.row 4 [[.sl 9 (t.fares.map Far.enc) t.fx,.sl 15 (t.rules.map Rul.enc) t.rx,.sl 3 (t.rous.map Rou.enc) t.ox,.sl 7 (t.taxes.map Tx.enc) t.tx]]):=by rw[hV0];rfl
  have g2:V0[2]?=some (Ob.row 9 [[.str f.car,.str f.frm,.str f.dst,.str f.bas,.str f.cls,.bool f.rnd,.int .i64 f.amt,.int .i64 f.rul,.int .i64 f.rou]]):=by rw[hV0];rfl
  obtain⟨T2,ccl,hx2⟩:=ccl g2
  refine Ya (λa V=>V=[Ob.row 2 [[.sl 5 (p.aps.map Apt.enc) p.apsx,.sl 3 (p.dts.map Dst.enc) p.dtsx]],Ob.row 4 [[.sl 9 (t.fares.map Far.enc) t.fx,.sl 15 (t.rules.map Rul.enc) t.rx,.sl 3 (t.rous.map Rou.enc) t.ox,.sl 7 (t.taxes.map Tx.enc) t.tx]]]/\gQ a 63 (a[7]?=some (.loc 1 0 0)) [(2,.int .i64 k),(3,.sl 8 (l.map Wnt.enc) lx),(4,.str s),(5,.int .i64 sale),(6,.loc 0 0 0)]) ?_ ?_
  ·simp only[push_cast,hal,h0,h1,h2,h3,h4,h5,↓WX,simprocAttr]
  rintro a V ⟨hV,hal,h2,h3,h4,h5,h6,h7⟩
  have v1:V[1]?=some (Ob.row 4 [[.sl 9 (t.fares.map Far.enc) t.fx,.sl 15 (t.rules.map Rul.enc) t.rx,.sl 3 (t.rous.map Rou.enc) t.ox,.sl 7 (t.taxes.map Tx.enc) t.tx]]):=by rw[hV];rfl
  have vl:V.length=2:=by rw[hV];rfl
  have hVV:V++[Ob.row 9 [[.str f.car,.str f.frm,.str f.dst,.str f.bas,.str f.cls,.bool f.rnd,.int .i64 f.amt,.int .i64 f.rul,.int .i64 f.rou]]]=V0:=by rw[hV,hV0];rfl
  clear hV hV0
  refine Ya (λa W=>W=V0/\gQ a 63 (a[14]?=some (.bool true)) [(3,.sl 8 (l.map Wnt.enc) lx),(4,.str s),(5,.int .i64 sale),(6,.loc 0 0 0),(7,.loc 1 0 0),(13,.loc 2 0 0)]) ?_ ?_
  ·simp only[push_cast,hal,h2,h3,h4,h5,h6,h7,v1,cfa,Yq,Yl,↓WX,simprocAttr,WY]
   exact⟨hVV,by rw[vl]⟩
  clear v1 vl hVV V
  rintro a V ⟨rfl,hal,h3,h4,h5,h6,h7,h13,h14⟩
  refine Ya (λa W=>W=V/\gQ a 63 (a[13]?=some (.loc 2 0 0)) [(3,.sl 8 (l.map Wnt.enc) lx),(4,.str s),(5,.int .i64 sale),(6,.loc 0 0 0),(7,.loc 1 0 0)]) ?_ ?_
  ·simp only[push_cast,hal,h3,h4,h5,h6,h7,h13,h14,↓WX,simprocAttr,WY]
  rintro a W ⟨rfl,hal,h3,h4,h5,h6,h7,h13⟩
  refine Ya (λa V=>V=W/\gQ a 63 (a[15]?=some (.sl 1 (cs.map Cnd.encT) cx)) [(3,.sl 8 (l.map Wnt.enc) lx),(4,.str s),(5,.int .i64 sale),(6,.loc 0 0 0),(7,.loc 1 0 0),(13,.loc 2 0 0)]) ?_ ?_
  ·simp only[push_cast,hal,h3,h4,h5,h6,h7,h13,g0,cci,↓WX,simprocAttr]
  rintro a V ⟨rfl,hal,h3,h4,h5,h6,h7,h13,h15⟩
  cases eb
  ·have hz:z=19:=hz
   subst hz
   simp only[push_cast,hal,h3,h13,h15,g2,cend,Tryz.f28,↓WX,simprocAttr,WY]
  rw[if_pos rfl]at hz
  cases cb
  case true=>
   rw[if_pos rfl]at hz
   subst hz
   simp only[push_cast,hal,h3,h13,h15,g2,cend,ccl,Tryz.f28,↓WX,simprocAttr,WY]
  rw[if_neg (by simp)]at hz
  refine Ya (λa W=>W=T2/\gQ a 63 (a[15]?=some (.sl 1 (cs.map Cnd.encT) cx)) [(3,.sl 8 (l.map Wnt.enc) lx),(4,.str s),(5,.int .i64 sale),(6,.loc 0 0 0),(7,.loc 1 0 0),(13,.loc 2 0 0)]) ?_ ?_
  ·simp only[push_cast,hal,h3,h4,h5,h6,h7,h13,h15,g2,cend,ccl,↓WX,simprocAttr,WY]
  have t0:=hx2 _ _ g0
  have t1:=hx2 _ _ g1
  have t2:=hx2 _ _ g2
  clear ccl hx2 g0 g1 g2
  rintro a W ⟨rfl,hal,h3,h4,h5,h6,h7,h13,h15⟩
  refine Ya (λa V=>V=W++[Ob.row 15 [[x0,x1,x2,x3,x4,x5,x6,x7,x8,x9,x10,x11,x12,x13,x14]]]/\gQ a 63 (a[16]?=some (.loc W.length 0 0)) [(3,.sl 8 (l.map Wnt.enc) lx),(4,.str s),(5,.int .i64 sale),(6,.loc 0 0 0),(7,.loc 1 0 0),(13,.loc 2 0 0),(15,.sl 1 (cs.map Cnd.encT) cx)]) ?_ ?_
  ·simp only[push_cast,hal,h3,h4,h5,h6,h7,h13,h15,t1,t2,cru,Yq,Yl,r0,r1,r2,r3,r4,r5,r6,r7,r8,r9,r10,r11,r12,r13,r14,↓WX,simprocAttr]
  rintro a V ⟨hV,hal,h3,h4,h5,h6,h7,h13,h15,h16⟩
  have w0:V[0]?=some (Ob.row 2 [[.sl 5 (p.aps.map Apt.enc) p.apsx,.sl 3 (p.dts.map Dst.enc) p.dtsx]]):=by rw[hV];exact Ym t0
  have w1:V[1]?=some (Ob.row 4 [[.sl 9 (t.fares.map Far.enc) t.fx,.sl 15 (t.rules.map Rul.enc) t.rx,.sl 3 (t.rous.map Rou.enc) t.ox,.sl 7 (t.taxes.map Tx.enc) t.tx]]):=by rw[hV];exact Ym t1
  have w2:V[2]?=some (Ob.row 9 [[.str f.car,.str f.frm,.str f.dst,.str f.bas,.str f.cls,.bool f.rnd,.int .i64 f.amt,.int .i64 f.rul,.int .i64 f.rou]]):=by rw[hV];exact Ym t2
  have wr:V[W.length]?=some (Ob.row 15 [[x0,x1,x2,x3,x4,x5,x6,x7,x8,x9,x10,x11,x12,x13,x14]]):=by rw[hV];exact Yl
  clear hV t0 t1 t2
  refine Za (λa W'=>(W'=V/\al=0)/\gQ a 63 (a[15]?=some (.sl 1 (cs.map Cnd.encT) cx)) [(6,.loc 0 0 0),(7,.loc 1 0 0),(13,.loc 2 0 0)]) ?_ ?_
  ·by_cases c2:al=0
   ·simp only[push_cast,Vp,hal,h3,h4,h5,h6,h7,h13,h15,h16,w0,wr,ctr,cal,c2,↓WX,simprocAttr,WY]
   ·rw[if_neg c2]at hz
    subst hz
    simp only[push_cast,Vo,hal,h3,h4,h5,h6,h16,w0,wr,ctr,cal,c2,Tryz.f28,↓WX,simprocAttr,WY]
  rintro a W' ⟨⟨rfl,c2⟩,hal,h6,h7,h13,h15⟩
  rw[if_pos c2]at hz
  subst hz
  simp only[push_cast,hal,h6,h7,h13,h15,w0,w1,w2,cwy,Tryz.f28,↓WX,simprocAttr]
 obtain⟨_,T,hr,rfl⟩:=this
 exact λst S=>Yd rfl hpp hr rfl
theorem PAmount_x {p:Plc} (hp:PlG p) {t:Trf} (ht:TrG t) (k:Int) (l:List Wnt) (lx:Bool) (hl:l.length<=900) (s:ByteArray) (hn:60000000<=n):∀st S,Yi E (Yb E n) st S 29 [.agg p.enc,.agg t.enc,.int .i64 k,.sl 8 (l.map Wnt.enc) lx,.str s]=some (.tup [.int .i64 (amtN p t k l s).1,.int .i64 (amtN p t k l s).2],S):=by
 obtain⟨m,rfl⟩:∃m,n=m+1:=⟨n-1,by omega⟩
 have hpp:Yp [.agg p.enc,.agg t.enc,.int .i64 k,.sl 8 (l.map Wnt.enc) lx,.str s]=true:=by simp only[Yc,Yg,Yt,Ja,Jd,D.pure,Ua]
 have cfa:=Pfare_x (n:=m) t k l lx (by omega)
 obtain⟨z,hz⟩:∃z,z=amtN p t k l s:=⟨_,rfl⟩
 rw[<-hz]
 unfold amtN at hz
 have hfa:=farA_amt ht k
 rw[show ((t.fares[k.toNat]?).getD zeFar)=farA t k from rfl]at cfa
 have cru:=PRule_x (n:=m) (t.fares.map Far.enc) (t.rous.map Rou.enc) (t.taxes.map Tx.enc) t.fx t.ox t.tx t.rules t.rx (Js _) (Jz _) (Jq _) ht.rl (by omega) (farA t k).rul
 rw[show (t.rules.find? λr=>decide (r.num=(farA t k).rul))=rulT t (farA t k).rul from rfl]at cru
 have cro:=PRouting_x (n:=m) (t.fares.map Far.enc) (t.rules.map Rul.enc) (t.taxes.map Tx.enc) t.fx t.rx t.tx t.rous t.ox (Js _) (Ruls_pure _) (Jq _) ht.ol (by omega) (farA t k).rou
 rw[show (t.rous.find? λr=>decide (r.num=(farA t k).rou))=rouT t (farA t k).rou from rfl]at cro
 have cpy:=λx hx=>PPay_x (n:=m) (rulT t (farA t k).rul) (pcsL_of ht _).1 (pcsL_of ht _).2 s x hx (by omega)
 have cap:=λy=>PApply_x (n:=m) (farA t k).amt y hfa (by omega)
 have hai:=λy=>(aplF_in (x:=(farA t k).amt) (k:=y) hfa).1
 have:WO (Yb E (m+1) 29 [.agg p.enc,.agg t.enc,.int .i64 k,.sl 8 (l.map Wnt.enc) lx,.str s] []) λr T=>r=.tup [.int .i64 z.1,.int .i64 z.2]:=by
  clear hpp
  by_cases ho:outF t k l
  ·rw[if_pos ho]at hz
   subst hz
   unfold outF at ho
   rw[Ue ho,if_pos ho]at cfa
   simp only[Plc.enc,Trf.enc,Far.enc]at cfa ⊢
   refine Ye Tryz.func29 rfl (by decide) rfl 82 rfl (λa hal ha=>?_)
   obtain⟨h0,h1,h2,h3,h4⟩:=aQ5 ha
   clear ha
   simp only[push_cast,hal,h0,h1,h2,h3,cfa,Tryz.f29,↓WX,simprocAttr,WY]
  rw[if_neg ho]at hz
  unfold outF at ho
  rw[Ud ho,if_neg ho]at cfa
  have hl0:l≠[]:=λh=>ho (.inl (by rw[h];rfl))
  clear ho
  unfold amtG at hz
  generalize farA t k=f at*
  obtain⟨cs,cx,hcs,hcl,cci⟩:=PCities_c (n:=m) p hp.apl l lx (by omega) hl0 (by omega)
  rw[<-hcs]at hz
  have cof:=POf_x (n:=m) hp cs cx (by omega) (milF (rouT t f.rou)) (by omega)
  obtain⟨x0,x1,x2,x3,x4,x5,x6,x7,x8,x9,x10,x11,x12,x13,x14,hrd,hone⟩:=rul_lit15 (rulT t f.rul)
  rw[hrd]at cru cpy
  simp only[List.all_cons,List.all_nil,Ua,Kv,D.one]at hone
  obtain⟨r0,r1,r2,r3,r4,r5,r6,r7,r8,r9,r10,r11,r12,r13,r14⟩:=hone
  generalize (rulT t f.rul).isSome=bs at cru
  generalize (rouT t f.rou).isSome=bo at cro
  obtain⟨u0,u1,hro,q0,q1⟩:=rou_litM (rouT t f.rou)
  rw[hro]at cro
  simp only[D.one]at q0 q1
  generalize payF (rulT t f.rul) s=py at*
  generalize milF (rouT t f.rou)=mf at*
  generalize ofN p cs mf=om at*
  generalize aplF f.amt=ap at*
  simp only[Plc.enc,Trf.enc,Far.enc]at cfa cru cro cci cof ⊢
  clear hrd hro
  obtain⟨o1,o2⟩:=om
  obtain⟨x,hx⟩:∃x:Int×Int,x=(if f.rou=0 then (0,0) else if 0<mf then (o1,o2) else (0,0)):=⟨_,rfl⟩
  dsimp only at hz
  rw[<-hx]at hz
  refine Ye Tryz.func29 rfl (by decide) rfl 82 rfl (λa hal ha=>?_)
  obtain⟨h0,h1,h2,h3,h4⟩:=aQ5 ha
  clear ha
  obtain⟨V0,hV0⟩:∃V0:List Ob,V0=[Ob.row 2 [[.sl 5 (p.aps.map Apt.enc) p.apsx,.sl 3 (p.dts.map Dst.enc) p.dtsx]],Ob.row 4 [[.sl 9 (t.fares.map Far.enc) t.fx,.sl 15 (t.rules.map Rul.enc) t.rx,.sl 3 (t.rous.map Rou.enc) t.ox,.sl 7 (t.taxes.map Tx.enc) t.tx]],Ob.row 9 [[.str f.car,.str f.frm,.str f.dst,.str f.bas,.str f.cls,.bool f.rnd,.int .i64 f.amt,.int .i64 f.rul,.int .i64 f.rou]]]:=⟨_,rfl⟩
  have g0:V0[0]?=some (Ob.row 2 [[.sl 5 (p.aps.map Apt.enc) p.apsx,.sl 3 (p.dts.map Dst.enc) p.dtsx]]):=by rw[hV0];rfl
  have g1:V0[1]?=some (Ob.row 4 [[.sl 9 (t.fares.map Far.enc) t.fx,.sl 15 (t.rules.map Rul.enc) t.rx,.sl 3 (t.rous.map Rou.enc) t.ox,.sl 7 (t.taxes.map Tx.enc) t.tx]]):=by rw[hV0];rfl
  have g2:V0[2]?=some (Ob.row 9 [[.str f.car,.str f.frm,.str f.dst,.str f.bas,.str f.cls,.bool f.rnd,.int .i64 f.amt,.int .i64 f.rul,.int .i64 f.rou]]):=by rw[hV0];rfl
  refine Ya (λa V=>V=[Ob.row 2 [[.sl 5 (p.aps.map Apt.enc) p.apsx,.sl 3 (p.dts.map Dst.enc) p.dtsx]],Ob.row 4 [[.sl 9 (t.fares.map Far.enc) t.fx,.sl 15 (t.rules.map Rul.enc) t.rx,.sl 3 (t.rous.map Rou.enc) t.ox,.sl 7 (t.taxes.map Tx.enc) t.tx]]]/\gQ a 82 (a[6]?=some (.loc 1 0 0)) [(2,.int .i64 k),(3,.sl 8 (l.map Wnt.enc) lx),(4,.str s),(5,.loc 0 0 0)]) ?_ ?_
  ·simp only[push_cast,hal,h0,h1,h2,h3,h4,↓WX,simprocAttr]
  rintro a V ⟨hV,hal,h2,h3,h4,h5,h6⟩
  have v1:V[1]?=some (Ob.row 4 [[.sl 9 (t.fares.map Far.enc) t.fx,.sl 15 (t.rules.map Rul.enc) t.rx,.sl 3 (t.rous.map Rou.enc) t.ox,.sl 7 (t.taxes.map Tx.enc) t.tx]]):=by rw[hV];rfl
  have vl:V.length=2:=by rw[hV];rfl
  have hVV:V++[Ob.row 9 [[.str f.car,.str f.frm,.str f.dst,.str f.bas,.str f.cls,.bool f.rnd,.int .i64 f.amt,.int .i64 f.rul,.int .i64 f.rou]]]=V0:=by rw[hV,hV0];rfl
  clear hV hV0
  refine Ya (λa W=>W=V0/\gQ a 82 (a[13]?=some (.bool true)) [(3,.sl 8 (l.map Wnt.enc) lx),(4,.str s),(5,.loc 0 0 0),(6,.loc 1 0 0),(12,.loc 2 0 0)]) ?_ ?_
  ·simp only[push_cast,hal,h2,h3,h4,h5,h6,v1,cfa,Yq,Yl,↓WX,simprocAttr,WY]
   exact⟨hVV,by rw[vl]⟩
  clear v1 vl hVV V
  rintro a V ⟨rfl,hal,h3,h4,h5,h6,h12,h13⟩
  refine Ya (λa W=>W=V/\gQ a 82 (a[12]?=some (.loc 2 0 0)) [(3,.sl 8 (l.map Wnt.enc) lx),(4,.str s),(5,.loc 0 0 0),(6,.loc 1 0 0)]) ?_ ?_
  ·simp only[push_cast,hal,h3,h4,h5,h6,h12,h13,↓WX,simprocAttr,WY]
  rintro a W ⟨rfl,hal,h3,h4,h5,h6,h12⟩
  refine Ya (λa V=>V=W/\gQ a 82 (a[14]?=some (.int .i64 0)) [(3,.sl 8 (l.map Wnt.enc) lx),(4,.str s),(5,.loc 0 0 0),(6,.loc 1 0 0),(12,.loc 2 0 0)]) ?_ ?_
  ·simp only[push_cast,hal,h3,h4,h5,h6,h12,↓WX,simprocAttr]
  rintro a V ⟨rfl,hal,h3,h4,h5,h6,h12,h14⟩
  refine Za (λa T=>(ExtS V T/\x.2=0)/\gQ a 82 (a[14]?=some (.int .i64 x.1)) [(4,.str s),(6,.loc 1 0 0),(12,.loc 2 0 0)]) ?_ ?_
  ·by_cases c2:f.rou=0
   ·rw[if_pos c2]at hx
    subst hx
    simp only[push_cast,Vp,hal,h4,h6,h12,h14,g2,c2,↓WX,simprocAttr,WY]
    exact ExtS.refl
   rw[if_neg c2]at hx
   by_cases c3:0<mf
   ·rw[if_pos c3]at hx
    subst hx
    dsimp only at*
    by_cases c4:o2=0
    ·subst c4
     simp only[push_cast,Vn,Vp,Vo,hal,h3,h4,h5,h6,h12,g1,g2,c2,c3,cro,cci,cof,q0,q1,Yq,Yl,Ym g0,↓WX,simprocAttr,WY]
     exact ExtS.refl.push _
    ·rw[if_neg c4]at hz
     subst hz
     simp only[push_cast,Vn,Vo,hal,h3,h5,h6,h12,g1,g2,c2,c3,c4,cro,cci,cof,q0,q1,Yq,Yl,Ym g0,Tryz.f29,↓WX,simprocAttr,WY]
   ·rw[if_neg c3]at hx
    subst hx
    simp only[push_cast,Vn,Vo,hal,h4,h6,h12,h14,g1,g2,c2,c3,cro,q0,q1,Yq,Yl,↓WX,simprocAttr,WY]
    exact ExtS.refl.push _
  rintro a T ⟨⟨hxT,c4⟩,hal,h4,h6,h12,h14⟩
  rw[if_pos c4]at hz
  have t1:=hxT _ _ g1
  have t2:=hxT _ _ g2
  have cap:=cap x.1
  have hai:=hai x.1
  generalize ap x.1=y at*
  obtain⟨y1,y2⟩:=y
  dsimp only at cap hz hai
  generalize x.1=xv at*
  clear hx c4 g0 g1 g2
  refine Ya (λa T'=>T'=T/\gQ a 82 (a[20]?=some (.int .i64 y2)) [(4,.str s),(6,.loc 1 0 0),(12,.loc 2 0 0),(19,.int .i64 y1)]) ?_ ?_
  ·simp only[push_cast,hal,h4,h6,h12,h14,t2,cap,↓WX,simprocAttr]
  rintro a T' ⟨rfl,hal,h4,h6,h12,h19,h20⟩
  by_cases c5:y2=0
  case neg=>
   rw[if_neg c5]at hz
   subst hz
   simp only[push_cast,Vo,hal,h20,c5,Tryz.f29,↓WX,simprocAttr]
  rw[if_pos c5]at hz
  have cpy:=cpy y1 hai
  rw[<-hz]at cpy
  simp only[push_cast,Vp,hal,h4,h6,h12,h19,h20,t1,t2,c5,cru,cpy,Yq,Yl,r0,r1,r2,r3,r4,r5,r6,r7,r8,r9,r10,r11,r12,r13,r14,Tryz.f29,↓WX,simprocAttr]
 obtain⟨_,T,hr,rfl⟩:=this
 exact λst S=>Yd rfl hpp hr rfl
end
section
variable {n : Nat}
theorem RMiles_n {p:Plc} (hp:PlG p) (hn:50000000<=n) (s t:ByteArray):∀st S,Yi E (Yb E n) st S 192 [.agg p.enc,.str s,.str t]=some (.tup [.int .i64 (milN p s t).1,.int .i64 (milN p s t).2],S):=by
 obtain⟨q,e,h,c⟩:=RMiles_x (n:=n) p hp.apl hp.dl hn s t
 have hx:∃z:Int×Int,MilS p s t z.1 z.2:=⟨(q,e),h⟩
 have:milN p s t=(q,e):=by
  unfold milN
  rw[dif_pos hx]
  obtain⟨e1,e2⟩:=hx.choose_spec.uniq h
  exact Prod.ext e1 e2
 rw[this]
 exact c
theorem RWay_x {p:Plc} (hp:PlG p) (l:List ByteArray) (lx:Bool) (hl:l.length<=1048576) (hn:50000010<=n):∀st S,Yi E (Yb E n) st S 141 [.agg p.enc,.sl 1 (l.map Cnd.encT) lx]=some (.tup [.int .i64 (wayF (milN p) l 0).1,.int .i64 (wayF (milN p) l 0).2],S):=by
 obtain⟨m,rfl⟩:∃m,n=m+1:=⟨n-1,by omega⟩
 have hpp:=Yt p
 have cm:=λx y=>RMiles_n (n:=m) hp (by omega) x y
 generalize milN p=mi at*
 obtain⟨z,hz⟩:∃z,z=wayF mi l 0:=⟨_,rfl⟩
 rw[<-hz]
 simp only[Plc.enc]at hpp cm ⊢
 have:WO (Yb E (m+1) 141 [.agg [.sl 5 (p.aps.map Apt.enc) p.apsx,.sl 3 (p.dts.map Dst.enc) p.dtsx],.sl 1 (l.map Cnd.encT) lx] []) λr T=>r=.tup [.int .i64 z.1,.int .i64 z.2]:=by
  refine Ye Tryz.func141 rfl (by decide) rfl 38 rfl (λa hal ha=>?_)
  have h0:a[0]?=some (.agg [.sl 5 (p.aps.map Apt.enc) p.apsx,.sl 3 (p.dts.map Dst.enc) p.dtsx]):=ha 0 (by simp)
  have h1:a[1]?=some (.sl 1 (l.map Cnd.encT) lx):=ha 1 (by simp)
  clear ha
  simp(maxSteps:=1000000)(disch:=omega)only[push_cast,h0,↓WX,simprocAttr]
  refine Yk (λi a T=>(T=[Ob.row 2 [[.sl 5 (p.aps.map Apt.enc) p.apsx,.sl 3 (p.dts.map Dst.enc) p.dtsx]]]/\∃v:Int,a[6]?=some (.int .i64 v)/\z=wayF mi (l.drop i) v)/\a.length=38/\a[1]?=some (.sl 1 (l.map Cnd.encT) lx)/\a[2]?=some (.loc 0 0 0)/\a[7]?=some (.int .i64 i)) l.length ?_ (by omega) ?_
  ·simp(maxSteps:=1000000)(disch:=omega)only[push_cast,hal,h1,Int.natCast_zero,simprocAttr]
   exact⟨_,rfl,hz⟩
  clear hz
  rintro i a T hi ⟨⟨rfl,v,h6,ez⟩,hal,h1,h2,h7⟩
  have hge:(0<=(i:Int)+1)=True:=eq_true (by omega)
  by_cases c:(i:Int)+1<l.length
  case neg=>
   rw[wayF_end (by omega)]at ez
   subst ez
   simp(maxSteps:=1000000)(disch:=omega)only[push_cast,hal,h1,h6,h7,c,Yf,Tryz.f141,↓WX,simprocAttr]
  have hlt:i<l.length:=by omega
  have hlt1:i+1<l.length:=by omega
  obtain⟨x,hx⟩:∃x,l[i]?=some x:=⟨l[i],by simp⟩
  obtain⟨y,hy⟩:∃y,l[i+1]?=some y:=⟨l[i+1],by simp⟩
  have cm:=cm x y
  rw[wayF_drop hx hy]at ez
  generalize mi x y=q at*
  obtain⟨q1,q2⟩:=q
  dsimp only at cm ez
  by_cases c2:q2=0
  ·rw[if_pos c2]at ez
   subst c2
   simp(maxSteps:=1000000)(disch:=omega)only[push_cast,Vp,hal,h1,h2,h6,h7,c,hlt,hx,hy,cm,hge,decide_true,Cnd.encT,Yf,show ((i:Int)+1).toNat=i+1 by omega,Int.natCast_add,Int.natCast_one,↓WX,simprocAttr]
   exact⟨_,rfl,ez⟩
  ·rw[if_neg c2]at ez
   subst ez
   simp(maxSteps:=1000000)(disch:=omega)only[push_cast,Vo,hal,h1,h2,h7,c,hx,hy,cm,hge,c2,Cnd.encT,Yf,show ((i:Int)+1).toNat=i+1 by omega,Tryz.f141,↓WX,simprocAttr]
 obtain⟨_,T,ho,rfl⟩:=this
 exact λst S=>Yd rfl (by simp only[Yc,Yg,D.pure,Ua,Cnd.encT_pure]at hpp ⊢;exact hpp) ho rfl
theorem ROf_x {p:Plc} (hp:PlG p) (c:List ByteArray) (cx:Bool) (hc:c.length<=1048576) (k:Int) (hn:50000020<=n):∀st S,Yi E (Yb E n) st S 87 [.agg p.enc,.sl 1 (c.map Cnd.encT) cx,.int .i64 k]=some (.tup [.int .i64 (ofN p c k).1,.int .i64 (ofN p c k).2],S):=by
 obtain⟨m,rfl⟩:∃m,n=m+1:=⟨n-1,by omega⟩
 have hpp:=Yt p
 have cw:=RWay_x (n:=m) hp c cx hc (by omega)
 obtain⟨z,hz⟩:∃z,z=ofN p c k:=⟨_,rfl⟩
 rw[<-hz]
 unfold ofN at hz
 generalize wayF (milN p) c 0=w at*
 obtain⟨w1,w2⟩:=w
 dsimp only at*
 have cl:=RLevel_x (n:=m) (by omega) w1 k
 simp only[Plc.enc]at hpp cw ⊢
 have:WO (Yb E (m+1) 87 [.agg [.sl 5 (p.aps.map Apt.enc) p.apsx,.sl 3 (p.dts.map Dst.enc) p.dtsx],.sl 1 (c.map Cnd.encT) cx,.int .i64 k] []) λr T=>r=.tup [.int .i64 z.1,.int .i64 z.2]:=by
  refine Ye Tryz.func87 rfl (by decide) rfl 24 rfl (λa hal ha=>?_)
  obtain⟨h0,h1,h2⟩:=aQ3 ha
  clear ha
  by_cases c2:w2=0
  ·rw[if_pos c2]at hz
   rw[<-hz]at cl
   simp only[push_cast,Vp,hal,h0,h1,h2,cw,cl,c2,Tryz.f87,↓WX,simprocAttr]
  ·rw[if_neg c2]at hz
   subst hz
   simp only[push_cast,Vo,hal,h0,h1,cw,c2,Tryz.f87,↓WX,simprocAttr]
 obtain⟨_,T,ho,rfl⟩:=this
 exact λst S=>Yd rfl (by simp only[Yc,Yg,D.pure,Ua,Cnd.encT_pure]at hpp ⊢;exact hpp) ho rfl
theorem RLink_x {l:List (ByteArray×ByteArray)} {lx:Bool} (hl:l.length<=1048576) (hn:1048580<=n) (s u:ByteArray):∃v:Int,(v<0↔(l.any λx=>decide (x.1=s) && decide (x.2=u))=false)/\∀st S,Yi E (Yb E n) st S 111 [.sl 2 (l.map encLk) lx,.str s,.str u]=some (.int .i64 v,S):=by
 obtain⟨m,rfl⟩:∃m,n=m+1:=⟨n-1,by omega⟩
 obtain⟨K,hK⟩:∃K:Int->Prop,∀v,K v↔(v<0↔(l.any λx=>decide (x.1=s) && decide (x.2=u))=false):=⟨_,λ_=>Iff.rfl⟩
 have:WO (Yb E (m+1) 111 [.sl 2 (l.map encLk) lx,.str s,.str u] []) λr T=>∃v:Int,r=.int .i64 v/\K v:=by
  obtain⟨P,hP0,hPs,hPl⟩:=takeP l λx=>(decide (x.1=s) && decide (x.2=u))=false
  refine Ye Tryz.func111 rfl (by decide) rfl 31 rfl (λa hal ha=>?_)
  obtain⟨h0,h1,h2⟩:=aQ3 ha
  clear ha
  simp only[push_cast,↓WX,simprocAttr]
  refine Yk (λi a T=>P i/\a.length=31/\a[0]?=some (.sl 2 (l.map encLk) lx)/\a[1]?=some (.str s)/\a[2]?=some (.str u)/\a[7]?=some (.int .i64 i)) l.length ?_ (by omega) ?_
  ·simp only[push_cast,hal,h0,h1,h2,simprocAttr,WY]
   exact hP0
  rintro i a T hi ⟨hpi,hal,h0,h1,h2,h7⟩
  rcases Kw hi with hlt |rfl
  case inr=>
   simp only[push_cast,hal,h0,h7,Tryz.f111,↓WX,simprocAttr,WY]
   exact⟨_,rfl,(hK _).2 ⟨λ_=>List.any_eq_false.2 λx hx=>by rw[hPl hpi x hx];decide,λ_=>by decide⟩⟩
  obtain⟨x,hx⟩:∃x,l[i]?=some x:=⟨l[i],by simp⟩
  have hltc:(i:Int)<l.length:=by omega
  by_cases q:x.1=s
  ·by_cases q2:x.2=u
   ·simp only[push_cast,hal,h0,h1,h2,h7,hltc,hx,q,q2,Yo,Tryz.f111,↓WX,simprocAttr]
    refine⟨_,rfl,(hK _).2 ⟨λh=>by omega,λh=>?_⟩⟩
    have:=List.any_eq_false.1 h x (Kx hx)
    rw[q,q2,Ue rfl,Ue rfl]at this
    exact absurd rfl this
   ·have hp1:=hPs i x hx hpi (by rw[Ud q2,Bool.and_false])
    simp(disch:=omega)only[push_cast,hal,h0,h1,h2,h7,hltc,hlt,hx,q,q2,Yo,Yf,↓WX,simprocAttr,WY]
    exact hp1
  ·have hp1:=hPs i x hx hpi (by rw[Ud q,Bool.false_and])
   simp(disch:=omega)only[push_cast,hal,h0,h1,h2,h7,hltc,hlt,hx,q,Yo,Yf,↓WX,simprocAttr,WY]
   exact hp1
 obtain⟨_,T,ho,v,rfl,hv⟩:=this
 exact⟨v,(hK v).1 hv,λst S=>Yd rfl (by simp[Yc,Yg,D.pure,encLk_pure]) ho rfl⟩
theorem RRAllows_x (o:Option Rou) (ho:∀r,o=some r->r.links.length<=1048576) (c:List ByteArray) (cx:Bool) (hc:c.length<=1048576) (hn:1048590<=n):∀st S,Yi E (Yb E n) st S 85 [rouD o,.sl 1 (c.map Cnd.encT) cx]=some (.bool (ralF o c),S):=by
 obtain⟨m,rfl⟩:∃m,n=m+1:=⟨n-1,by omega⟩
 obtain⟨z,hz⟩:∃z,z=ralF o c:=⟨_,rfl⟩
 rw[<-hz]
 unfold ralF at hz
 have:WO (Yb E (m+1) 85 [rouD o,.sl 1 (c.map Cnd.encT) cx] []) λr T=>r=.bool z:=by
  cases o with
  |none=>
   have hz':z=true:=hz
   rw[hz']
   simp only[rouD]
   refine Ye Tryz.func85 rfl (by decide) rfl 31 rfl (λa hal ha=>?_)
   obtain⟨h0,h1⟩:=aQ2 ha
   clear ha
   simp only[push_cast,h0,↓WX,simprocAttr]
   refine Yk (λi a T=>T=[Ob.row 3 [[.int .i64 0,.nils,.int .i64 0]]]/\a.length=31/\a[1]?=some (.sl 1 (c.map Cnd.encT) cx)/\a[2]?=some (.loc 0 0 0)/\a[5]?=some (.int .i64 1)) 0 ?_ (by omega) ?_
   ·simp only[push_cast,hal,h1,simprocAttr]
   rintro i a T hi ⟨rfl,hal,h1,h2,h5⟩
   by_cases q:(1:Int)<c.length
   ·simp only[push_cast,Vn,hal,h1,h2,h5,q,Tryz.f85,↓WX,simprocAttr,WY]
   ·simp only[push_cast,hal,h1,h5,q,Tryz.f85,↓WX,simprocAttr]
  |some r=>
   have hrl:=ho r rfl
   have hlk:lksF (some r)=r.links:=rfl
   rw[hlk]at hz
   obtain⟨fl,hfl⟩:∃fl:ByteArray->ByteArray->Int,∀(s t:ByteArray),(fl s t<0↔(r.links.any λx=>decide (x.1=s) && decide (x.2=t))=false)/\∀st S,Yi E (Yb E m) st S 111 [.sl 2 (r.links.map encLk) r.linksx,.str s,.str t]=some (.int .i64 (fl s t),S):=
    ⟨λs t=>(RLink_x (n:=m) (lx:=r.linksx) hrl (by omega) s t).choose,λs t=>(RLink_x (n:=m) (lx:=r.linksx) hrl (by omega) s t).choose_spec⟩
   have cfl:=λs t=>(hfl s t).2
   simp only[rouD,Rou.enc]
   refine Ye Tryz.func85 rfl (by decide) rfl 31 rfl (λa hal ha=>?_)
   obtain⟨h0,h1⟩:=aQ2 ha
   clear ha
   simp only[push_cast,h0,↓WX,simprocAttr]
   refine Yk (λi a T=>(T=[Ob.row 3 [[.int .i64 r.num,.sl 2 (r.links.map encLk) r.linksx,.int .i64 r.miles]]]/\z=(decide ((r.links.length:Int)=0) || stpAll r.links (c.drop i))/\∃j:Int,a[5]?=some (.int .i64 j)/\j=(i:Int)+1)/\a.length=31/\a[1]?=some (.sl 1 (c.map Cnd.encT) cx)/\a[2]?=some (.loc 0 0 0)) c.length ?_ (by omega) ?_
   ·simp only[push_cast,hal,h1,simprocAttr,WY]
    exact⟨hz,_,rfl,rfl⟩
   clear hz
   rintro i a T hi ⟨⟨rfl,hz,j,h5,hj⟩,hal,h1,h2⟩
   by_cases q:j<c.length
   case neg=>
    have hz':z=true:=by rw[hz,stpAll_end (by omega),Bool.or_true]
    rw[hz']
    simp only[push_cast,hal,h1,h5,q,Tryz.f85,↓WX,simprocAttr]
   by_cases q2:(0:Int)<r.links.length
   case neg=>
    have hz':z=true:=by rw[hz,Ue (by omega),Bool.true_or]
    rw[hz']
    simp only[push_cast,Vn,hal,h1,h2,h5,q,q2,Tryz.f85,↓WX,simprocAttr]
   have hlt:i<c.length:=by omega
   have hlt1:i+1<c.length:=by omega
   obtain⟨x,hx⟩:∃x,c[i]?=some x:=⟨c[i],by simp⟩
   obtain⟨y,hy⟩:∃y,c[i+1]?=some y:=⟨c[i+1],by simp⟩
   have hj0:j-1=(i:Int):=by omega
   have hjn:j.toNat=i+1:=by omega
   have hge:(0<=j)=True:=eq_true (by omega)
   have hwj:IntKind.i64.wrap (j-1)=(i:Int):=by rw[hj0];exact Yf (by omega) (by omega)
   rw[stpAll_drop hx hy]at hz
   cases e:decide (fl x y<0)
   ·have e':(r.links.any λl=>decide (l.1=x) && decide (l.2=y))=true:=by
     cases h:(r.links.any λl=>decide (l.1=x) && decide (l.2=y))
     ·exact absurd ((hfl x y).1.2 h) (Vc e)
     ·rfl
    rw[e',Bool.true_and]at hz
    simp(maxSteps:=1000000)(disch:=omega)only[push_cast,Vn,hal,h1,h2,h5,q,q2,hlt,hx,hy,hwj,hjn,hge,cfl,e,Cnd.encT,Yf,↓WX,simprocAttr]
    exact⟨hz,_,rfl,by push_cast<;>omega⟩
   ·have hz':z=false:=by rw[hz,(hfl x y).1.1 (Vb e),Bool.false_and,Bool.or_false,Ud (by omega)]
    rw[hz']
    simp only[push_cast,Vn,hal,h1,h2,h5,q,q2,hx,hy,hwj,hjn,hge,cfl,e,Cnd.encT,Tryz.f85,↓WX,simprocAttr]
 obtain⟨_,T,hr,rfl⟩:=this
 exact λst S=>Yd rfl (by simp only[Yc,Yg,rouD_pure,D.pure,Cnd.encT_pure,Ua]) hr rfl
theorem RPay_x (o:Option Rul) (hpl:(pcsL o).length<=1048576) (hpc:∀p∈pcsL o,0<=p.2/\p.2<=1000) (s:ByteArray) (v:Int) (hv:0<=v) (hv1:v<=1099511627776) (hn:1048590<=n):∀st S,Yi E (Yb E n) st S 89 [rulD o,.str s,.int .i64 v]=some (.tup [.int .i64 (payF o s v).1,.int .i64 (payF o s v).2],S):=by
 obtain⟨m,rfl⟩:∃m,n=m+1:=⟨n-1,by omega⟩
 have hpo:=Jl o
 obtain⟨z,hz⟩:∃z,z=payF o s v:=⟨_,rfl⟩
 rw[<-hz]
 unfold payF at hz
 have cf:=λy h0 h1=>RPercent_x (n:=m) (by omega) v y hv hv1 h0 h1
 obtain⟨c0,c1,c2,c3,c4,c5,c6,c7,c8,c9,c10,c11,c12,c13,d,hd,hf,hone⟩:=rul_litP o
 have od:=Yv hf
 rw[hd]at hpo ⊢
 generalize pcsL o=l at*
 clear hd
 simp only[List.all_cons,List.all_nil,Ua,Kv,D.one]at hone od
 have:WO (Yb E (m+1) 89 [.agg [c0,c1,c2,c3,c4,c5,c6,c7,c8,c9,c10,c11,c12,c13,d],.str s,.int .i64 v] []) λr T=>r=.tup [.int .i64 z.1,.int .i64 z.2]:=by
  refine Ye Tryz.func89 rfl (by decide) rfl 39 rfl (λa hal ha=>?_)
  obtain⟨h0,h1,h2⟩:=aQ3 ha
  clear ha
  refine Ya (λa V=>V=[Ob.row 15 [[c0,c1,c2,c3,c4,c5,c6,c7,c8,c9,c10,c11,c12,c13,d]]]/\gQ a 39 (a[3]?=some (.loc 0 0 0)) [(1,.str s),(2,.int .i64 v)]) ?_ ?_
  ·simp only[push_cast,hal,h0,h1,h2,hone,od,↓WX,simprocAttr]
  rintro a V ⟨hV,hal,h1,h2,h3⟩
  have g0:V[0]?=some (Ob.row 15 [[c0,c1,c2,c3,c4,c5,c6,c7,c8,c9,c10,c11,c12,c13,d]]):=by rw[hV];rfl
  clear hV
  simp only[push_cast,↓WX,simprocAttr]
  refine Yk (λi a T=>(T=V/\z=(match (l.drop i).find? λp=>decide (p.1=s) with |none=>pctF v 10000 |some p=>pctF v (100*p.2)))/\a.length=39/\a[1]?=some (.str s)/\a[2]?=some (.int .i64 v)/\a[3]?=some (.loc 0 0 0)/\a[8]?=some (.int .i64 i)) l.length ?_ (by omega) ?_
  ·simp only[push_cast,hal,h1,h2,h3,simprocAttr,WY]
   exact hz
  clear hz
  rintro i a T hi ⟨⟨rfl,hz⟩,hal,h1,h2,h3,h8⟩
  rcases hf with ⟨rfl,rfl⟩ | ⟨y,rfl⟩
  ·have hi0:i=0:=by simpa using hi
   subst hi0
   have hz':z=pctF v 10000:=hz
   have cp:=cf 10000 (by omega) (by omega)
   rw[<-hz']at cp
   simp only[push_cast,hal,h2,h3,h8,g0,cp,Tryz.f89,↓WX,simprocAttr,WY]
  rcases Kw hi with hlt |he
  case inr=>
   subst he
   have hz':z=pctF v 10000:=by rw[hz,Vj];rfl
   have cp:=cf 10000 (by omega) (by omega)
   rw[<-hz']at cp
   simp only[push_cast,hal,h2,h3,h8,g0,cp,Tryz.f89,↓WX,simprocAttr,WY]
  have hltc:(i:Int)<l.length:=by omega
  obtain⟨x,hx⟩:∃x,l[i]?=some x:=⟨l[i],by simp⟩
  rw[Yu hx,List.find?_cons]at hz
  cases e1:decide (x.1=s)
  ·rw[e1]at hz
   simp(disch:=omega)only[push_cast,hal,h1,h2,h3,h8,g0,hltc,hlt,hx,e1,Yo,encPc,Yf,↓WX,simprocAttr,WY]
   exact hz
  ·rw[e1]at hz
   have hz':z=pctF v (100*x.2):=hz
   have hxp:=hpc x (Kx hx)
   have cp:=cf (100*x.2) (by omega) (by omega)
   rw[<-hz']at cp
   have hw:IntKind.i64.wrap (100*x.2)=100*x.2:=Yf (by omega) (by omega)
   simp only[push_cast,hal,h1,h2,h3,h8,g0,hltc,hx,e1,cp,hw,Yo,encPc,Tryz.f89,↓WX,simprocAttr]
 obtain⟨_,T,hr,rfl⟩:=this
 exact λst S=>Yd rfl (by rw[Yc,hpo];rfl) hr rfl
theorem RMiles25_x (t:Trf) (ht:t.rous.length<=1048576) (f:Far) (hn:1048590<=n):∀st S,Yi E (Yb E n) st S 86 [.agg t.enc,.agg f.enc]=some (.int .i64 (if f.rou=0 then 0 else milF (rouT t f.rou)),S):=by
 obtain⟨m,rfl⟩:∃m,n=m+1:=⟨n-1,by omega⟩
 have hp:=Ja t
 have hr:=Routing24_x (n:=m) (t.fares.map Far.enc) (t.rules.map Rul.enc) (t.taxes.map Tx.enc) t.fx t.rx t.tx t.rous t.ox (Js _) (Ruls_pure _) (Jq _) ht (by omega) f.rou
 obtain⟨z,hz⟩:∃z,z=if f.rou=0 then 0 else milF (rouT t f.rou):=⟨_,rfl⟩
 rw[<-hz]
 unfold rouT at hz
 generalize t.rous.find? (λr=>decide (r.num=f.rou))=o at hr hz
 generalize o.isSome=b at hr
 obtain⟨c0,d,hd,o1,o2⟩:=rou_litM o
 rw[hd]at hr
 generalize milF o=mm at*
 clear hd
 simp only[D.one]at o1 o2
 simp only[Trf.enc,Far.enc]at hp hr ⊢
 have:WO (Yb E (m+1) 86 [.agg [.sl 9 (t.fares.map Far.enc) t.fx,.sl 15 (t.rules.map Rul.enc) t.rx,.sl 3 (t.rous.map Rou.enc) t.ox,.sl 7 (t.taxes.map Tx.enc) t.tx],.agg [.str f.car,.str f.frm,.str f.dst,.str f.bas,.str f.cls,.bool f.rnd,.int .i64 f.amt,.int .i64 f.rul,.int .i64 f.rou]] []) λr T=>r=.int .i64 z:=by
  refine Ye Tryz.func86 rfl (by decide) rfl 19 rfl (λa hal ha=>?_)
  obtain⟨h0,h1⟩:=aQ2 ha
  clear ha
  by_cases e:f.rou=0
  ·have d1:decide (f.rou=0)=true:=Ue e
   rw[if_pos e]at hz
   rw[hz]
   simp only[push_cast,hal,h0,h1,hr,d1,o1,o2,Tryz.f86,↓WX,simprocAttr]
  ·have d1:decide (f.rou=0)=false:=Ud e
   rw[if_neg e]at hz
   rw[hz]
   simp only[push_cast,hal,h0,h1,hr,d1,o1,o2,Tryz.f86,↓WX,simprocAttr]
 obtain⟨_,T,ho,rfl⟩:=this
 exact λst S=>Yd rfl (by simp only[Yc,Yg,D.pure,Ua]at hp ⊢;exact hp) ho rfl
end
end Go.Proofs.YtaklebjoenophaaGreat.Dm
