/-
  A market of the law of shops: does it fit; the legs that are on sale.
-/
import Derived.Test.YtkemehicndccmaaGreatDoorShA
import Derived.Test.YtkemehicndccmaaGreatDoorTfA
set_option linter.unusedSimpArgs false
set_option linter.unusedVariables false
namespace Go.Proofs.YtkemehicndccmaaGreatDoor.Dm
open Go Gw
set_option linter.unusedSimpArgs false
set_option linter.unusedSimpArgs false
structure Sal where
 leg:Int
 cls:ByteArray
 n:Int
def Sal.enc (x:Sal):List D:=[.int .i64 x.leg,.str x.cls,.int .i64 x.n]
theorem Sals_pure (l:List Sal):pureLL (l.map Sal.enc)=true:=by
 induction l with
 |nil=>rfl
 |cons f fs ih=>rw[List.map_cons,pureLL_cons,ih];rfl
structure Mkt where
 p:Plc
 l:List Flt
 lx:Bool
 w:List Shr
 wx:Bool
 c:List Cnn
 cx:Bool
 g:List Cfg
 gx:Bool
 days:Int
 s:List Sal
 sx:Bool
 t:Trf
def Mkt.enc (m:Mkt):List D:=[.sl 5 (m.p.aps.map Apt.enc) m.p.apsx,.sl 3 (m.p.dts.map Dst.enc) m.p.dtsx,.sl 6 (m.l.map Flt.enc) m.lx,.sl 9 (m.w.map Shr.enc) m.wx,.sl 4 (m.c.map Cnn.enc) m.cx,.sl 2 (m.g.map Cfg.enc) m.gx,.int .i64 m.days,.sl 3 (m.s.map Sal.enc) m.sx,.sl 9 (m.t.fares.map Far.enc) m.t.fx,.sl 15 (m.t.rules.map Rul.enc) m.t.rx,.sl 3 (m.t.rous.map Rou.enc) m.t.ox,.sl 7 (m.t.taxes.map Tx.enc) m.t.tx]
theorem Cnns_pureM (l:List Cnn):pureLL (l.map Cnn.enc)=true:=by
 induction l with
 |nil=>rfl
 |cons f fs ih=>rw[List.map_cons,pureLL_cons,ih];rfl
theorem Mkt_pure (m:Mkt):pureL m.enc=true:=by
 simp only[D.pure,pureL_cons,pureL_nil,Bool.and_self,Mkt.enc,Apts_pure,Dsts_pure,Flts_pure,Shrs_pure,Cnns_pureM,Cfgs_pure,Sals_pure,Fars_pure,Ruls_pure,Rous_pure,Txs_pure]
structure MktB (m:Mkt):Prop where
 apr:∀c∈m.p.aps,c.code.size≤1048576∧c.city.size≤1048576∧c.ctry.size≤1048576
 plb:PlcB m.p
 flt:∀f∈m.l,FltB f
 shr:∀x∈m.w,ShrB x
 cnn:∀c∈m.c,c.a.size≤1048576∧c.i.size≤1048576∧c.o.size≤1048576
 cfg:∀c∈m.g,Wb.CfgB c
 far:∀f∈m.t.fares,f.car.size≤1048576∧f.bas.size≤1048576∧f.cls.size≤1048576
 rul:∀r∈m.t.rules,RulB r
 rou:∀r∈m.t.rous,r.links.length≤1048576∧∀x∈r.links,x.1.size≤1048576∧x.2.size≤1048576
 tax:∀x∈m.t.taxes,TxB x
structure MktF (m:Mkt):Prop where
 l:m.l.length≤8
 legs:∀f∈m.l,f.legs.length≤6
 d0:0≤m.days
 d1:m.days≤2
 s:m.s.length≤12
 g:m.g.length≤4
 cfg:cfgL m.g m.g.length=[]
theorem len_fz {S:List Ob} {d:D} {fs:List (Int×ByteArray)} (h:(d=.nils∧fs=[])∨∃y,d=.sl 2 (fs.map encF) y):dLen Tryz.prog S 66 d=some (.int .i64 fs.length):=by
 rcases h with ⟨rfl,rfl⟩ | ⟨y,rfl⟩
 ·simp only[push_cast]
 ·simp only[push_cast]
section
variable {n : Nat}
set_option maxHeartbeats 32000000 in
set_option maxRecDepth 100000 in
theorem fits30_c (hn:8000000≤n) {m:Mkt} (hm:MktB m):∃b,(b=true→MktF m)∧∀st S,callD E (dcall E n) st S 4 [.agg m.enc]=some (.bool b,S):=by
 obtain⟨n,rfl⟩:∃k,n=k+1:=⟨n-1,by omega⟩
 have hp:pureL [.agg m.enc]=true:=by rw[pureL_cons,D.pure,Mkt_pure];rfl
 simp only[Mkt.enc]at hp ⊢
 have:WO (dcall E (n+1) 4 [.agg [.sl 5 (m.p.aps.map Apt.enc) m.p.apsx,.sl 3 (m.p.dts.map Dst.enc) m.p.dtsx,.sl 6 (m.l.map Flt.enc) m.lx,.sl 9 (m.w.map Shr.enc) m.wx,.sl 4 (m.c.map Cnn.enc) m.cx,.sl 2 (m.g.map Cfg.enc) m.gx,.int .i64 m.days,.sl 3 (m.s.map Sal.enc) m.sx,.sl 9 (m.t.fares.map Far.enc) m.t.fx,.sl 15 (m.t.rules.map Rul.enc) m.t.rx,.sl 3 (m.t.rous.map Rou.enc) m.t.ox,.sl 7 (m.t.taxes.map Tx.enc) m.t.tx]] []) fun r T=>∃b,r=.bool b∧(b=true→MktF m):=by
  refine wo_dcall Tryz.func4 rfl (by decide) rfl 165 rfl (fun a hal ha=>?_)
  have h0:a[0]? =some (.agg [.sl 5 (m.p.aps.map Apt.enc) m.p.apsx,.sl 3 (m.p.dts.map Dst.enc) m.p.dtsx,.sl 6 (m.l.map Flt.enc) m.lx,.sl 9 (m.w.map Shr.enc) m.wx,.sl 4 (m.c.map Cnn.enc) m.cx,.sl 2 (m.g.map Cfg.enc) m.gx,.int .i64 m.days,.sl 3 (m.s.map Sal.enc) m.sx,.sl 9 (m.t.fares.map Far.enc) m.t.fx,.sl 15 (m.t.rules.map Rul.enc) m.t.rx,.sl 3 (m.t.rous.map Rou.enc) m.t.ox,.sl 7 (m.t.taxes.map Tx.enc) m.t.tx]):=ha 0 (by simp)
  clear ha
  obtain⟨S0,hS0⟩:∃S0,S0=[Ob.row 12 [[.sl 5 (m.p.aps.map Apt.enc) m.p.apsx,.sl 3 (m.p.dts.map Dst.enc) m.p.dtsx,.sl 6 (m.l.map Flt.enc) m.lx,.sl 9 (m.w.map Shr.enc) m.wx,.sl 4 (m.c.map Cnn.enc) m.cx,.sl 2 (m.g.map Cfg.enc) m.gx,.int .i64 m.days,.sl 3 (m.s.map Sal.enc) m.sx,.sl 9 (m.t.fares.map Far.enc) m.t.fx,.sl 15 (m.t.rules.map Rul.enc) m.t.rx,.sl 3 (m.t.rous.map Rou.enc) m.t.ox,.sl 7 (m.t.taxes.map Tx.enc) m.t.tx]]]:=⟨_,rfl⟩
  have g0:S0[0]? =some (.row 12 [[.sl 5 (m.p.aps.map Apt.enc) m.p.apsx,.sl 3 (m.p.dts.map Dst.enc) m.p.dtsx,.sl 6 (m.l.map Flt.enc) m.lx,.sl 9 (m.w.map Shr.enc) m.wx,.sl 4 (m.c.map Cnn.enc) m.cx,.sl 2 (m.g.map Cfg.enc) m.gx,.int .i64 m.days,.sl 3 (m.s.map Sal.enc) m.sx,.sl 9 (m.t.fares.map Far.enc) m.t.fx,.sl 15 (m.t.rules.map Rul.enc) m.t.rx,.sl 3 (m.t.rous.map Rou.enc) m.t.ox,.sl 7 (m.t.taxes.map Tx.enc) m.t.tx]]):=by rw[hS0];rfl
  refine wc_scut (fun a V=>V=S0∧a.length=165∧a[1]? =some (.loc 0 0 0)) ?_ ?_
  ·simp(maxSteps:=1000000)(disch:=omega)only[push_cast,hal,h0,↓WX,simprocAttr]
   exact hS0.symm
  clear hal h0 a
  clear hS0
  rintro a V ⟨rfl,hal,h1⟩
  simp only[List.append_eq,List.cons_append,List.nil_append]
  by_cases c1:(8:Int)<m.l.length
  ·simp(maxSteps:=1000000)(disch:=omega)only[push_cast,gt_iff_lt,hal,h1,g0,c1,Tryz.f4,↓WX,simprocAttr]
   exact⟨false,rfl,fun h=>by cases h⟩
  by_cases c2:(4:Int)<m.w.length
  ·simp(maxSteps:=1000000)(disch:=omega)only[push_cast,gt_iff_lt,hal,h1,g0,c1,c2,Tryz.f4,↓WX,simprocAttr]
   exact⟨false,rfl,fun h=>by cases h⟩
  by_cases c3:(6:Int)<m.c.length
  ·simp(maxSteps:=1000000)(disch:=omega)only[push_cast,gt_iff_lt,hal,h1,g0,c1,c2,c3,Tryz.f4,↓WX,simprocAttr]
   exact⟨false,rfl,fun h=>by cases h⟩
  by_cases c4:(4:Int)<m.g.length
  ·simp(maxSteps:=1000000)(disch:=omega)only[push_cast,gt_iff_lt,hal,h1,g0,c1,c2,c3,c4,Tryz.f4,↓WX,simprocAttr]
   exact⟨false,rfl,fun h=>by cases h⟩
  by_cases c5:m.days<0
  ·simp(maxSteps:=1000000)(disch:=omega)only[push_cast,gt_iff_lt,hal,h1,g0,c1,c2,c3,c4,c5,Tryz.f4,↓WX,simprocAttr]
   exact⟨false,rfl,fun h=>by cases h⟩
  by_cases c6:2<m.days
  ·simp(maxSteps:=1000000)(disch:=omega)only[push_cast,gt_iff_lt,hal,h1,g0,c1,c2,c3,c4,c5,c6,Tryz.f4,↓WX,simprocAttr]
   exact⟨false,rfl,fun h=>by cases h⟩
  by_cases c7:(12:Int)<m.s.length
  ·simp(maxSteps:=1000000)(disch:=omega)only[push_cast,gt_iff_lt,hal,h1,g0,c1,c2,c3,c4,c5,c6,c7,Tryz.f4,↓WX,simprocAttr]
   exact⟨false,rfl,fun h=>by cases h⟩
  by_cases c8:(12:Int)<m.t.fares.length
  ·simp(maxSteps:=1000000)(disch:=omega)only[push_cast,gt_iff_lt,hal,h1,g0,c1,c2,c3,c4,c5,c6,c7,c8,Tryz.f4,↓WX,simprocAttr]
   exact⟨false,rfl,fun h=>by cases h⟩
  by_cases c9:(12:Int)<m.p.aps.length
  ·simp(maxSteps:=1000000)(disch:=omega)only[push_cast,gt_iff_lt,hal,h1,g0,c1,c2,c3,c4,c5,c6,c7,c8,c9,Tryz.f4,↓WX,simprocAttr]
   exact⟨false,rfl,fun h=>by cases h⟩
  by_cases c10:(20:Int)<m.p.dts.length
  ·simp(maxSteps:=1000000)(disch:=omega)only[push_cast,gt_iff_lt,hal,h1,g0,c1,c2,c3,c4,c5,c6,c7,c8,c9,c10,Tryz.f4,↓WX,simprocAttr]
   exact⟨false,rfl,fun h=>by cases h⟩
  by_cases c11:(6:Int)<m.t.rules.length
  ·simp(maxSteps:=1000000)(disch:=omega)only[push_cast,gt_iff_lt,hal,h1,g0,c1,c2,c3,c4,c5,c6,c7,c8,c9,c10,c11,Tryz.f4,↓WX,simprocAttr]
   exact⟨false,rfl,fun h=>by cases h⟩
  by_cases c12:(6:Int)<m.t.rous.length
  ·simp(maxSteps:=1000000)(disch:=omega)only[push_cast,gt_iff_lt,hal,h1,g0,c1,c2,c3,c4,c5,c6,c7,c8,c9,c10,c11,c12,Tryz.f4,↓WX,simprocAttr]
   exact⟨false,rfl,fun h=>by cases h⟩
  by_cases c13:(6:Int)<m.t.taxes.length
  ·simp(maxSteps:=1000000)(disch:=omega)only[push_cast,gt_iff_lt,hal,h1,g0,c1,c2,c3,c4,c5,c6,c7,c8,c9,c10,c11,c12,c13,Tryz.f4,↓WX,simprocAttr]
   exact⟨false,rfl,fun h=>by cases h⟩
  refine wc_scut (fun a W=>W=V∧a.length=165∧a[1]? =some (.loc 0 0 0)) ?_ ?_
  ·simp(maxSteps:=1000000)(disch:=omega)only[push_cast,gt_iff_lt,hal,h1,g0,c1,c2,c3,c4,c5,c6,c7,c8,c9,c10,c11,c12,c13,↓WX,simprocAttr]
  clear hal h1 a
  rintro a W ⟨rfl,hal,h1⟩
  have hF:∀(_:∀f∈m.l,f.legs.length≤6) (_:cfgL m.g m.g.length=[]),MktF m:=fun h1 h2=>⟨by omega,h1,by omega,by omega,by omega,by omega,h2⟩
  simp(maxSteps:=1000000)(disch:=omega)only[push_cast,↓WX,simprocAttr]
  refine wl_loop (fun i a T=>T=W∧a.length=165∧a[1]? =some (.loc 0 0 0)∧a[3]? =some (.int .i64 i)) m.l.length ?_ (by omega) ?_
  ·simp(maxSteps:=1000000)(disch:=omega)only[push_cast,hal,h1,Int.natCast_zero,simprocAttr]
  clear hal h1 a
  rintro i a T hi ⟨rfl,hal,h1,h3⟩
  rcases Nat.lt_or_eq_of_le hi with hlt |rfl
  case inl=>
   obtain⟨f,hf⟩:∃f,m.l[i]? =some f:=⟨m.l[i],by simp⟩
   have hltc:(i:Int)<m.l.length:=by omega
   by_cases q1:f.pf<10
   ·simp(maxSteps:=1000000)(disch:=omega)only[push_cast,hal,h1,h3,g0,hltc,hf,q1,Flt.enc,Tryz.f4,↓WX,simprocAttr]
    exact⟨false,rfl,fun h=>by cases h⟩
   by_cases q2:36514<f.pt
   ·simp(maxSteps:=1000000)(disch:=omega)only[push_cast,gt_iff_lt,hal,h1,h3,g0,hltc,hf,q1,q2,Flt.enc,Tryz.f4,↓WX,simprocAttr]
    exact⟨false,rfl,fun h=>by cases h⟩
   simp(maxSteps:=1000000)(disch:=omega)only[push_cast,gt_iff_lt,hal,h1,h3,g0,hltc,hlt,hf,q1,q2,Flt.enc,wrap_ok,Int.natCast_add,Int.natCast_one,↓WX,simprocAttr]
  obtain⟨d6,f6,z6,-,k6⟩:=PCheck_c (n:=n) (p:=m.p) (by omega) (by omega) (by omega) (fun c hc=>by have:=hm.apr c hc;unfold AptR;omega)
  obtain⟨d8,f8,z8,-,n8,k8⟩:=Check08_c (n:=n) (lx:=m.lx) (by omega) hm.plb (by omega) hm.flt
  obtain⟨d9,⟨f9,z9,-,-⟩,k9⟩:=Check09_c (n:=n) (p:=m.p) (lx:=m.lx) (wx:=m.wx) (by omega) (by omega) hm.flt (by omega) hm.shr
  obtain⟨dB,zB,kB⟩:=ref_Check_c (n:=n) (l:=m.c) (x:=m.cx) (by omega) (by omega) (fun c hc=>by have:=hm.cnn c hc;unfold CnR;omega)
  obtain⟨dC,fC,zC,nC,kC⟩:=Wb.rCheckW (n:=n) (l:=m.g) (lx:=m.gx) (by omega) (by omega) hm.cfg
  obtain⟨dD,⟨fD,zD,-,-⟩,kD⟩:=Check24_c (n:=n) (p:=m.p) (t:=m.t) (by omega) ⟨by omega,by omega,by omega,by omega,hm.far,hm.rul,hm.rou,hm.tax⟩ (by omega)
  obtain⟨dE,⟨fE,zE,-,-⟩,kE⟩:=Check27_c (n:=n) (l:=m.t.taxes) (lx:=m.t.tx) (by omega) hm.tax (by omega)
  generalize conL m.c m.c.length=fB at zB
  have y6:=len_fz (S:=T) z6
  have y8:=len_fz (S:=T) z8
  have y9:=len_fz (S:=T) z9
  have yB:=len_fz (S:=T) zB
  have yC:=len_fz (S:=T) zC
  have yD:=len_fz (S:=T) zD
  have yE:=len_fz (S:=T) zE
  simp only[Plc.enc,Trf.enc]at k6 k8 k9 kD
  have v6:f6=[]∨¬(f6.length:Int)=0:=by cases f6 <;> simp;omega
  have v8:f8=[]∨¬(f8.length:Int)=0:=by cases f8 <;> simp;omega
  have v9:f9=[]∨¬(f9.length:Int)=0:=by cases f9 <;> simp;omega
  have vB:fB=[]∨¬(fB.length:Int)=0:=by cases fB <;> simp;omega
  have vC:fC=[]∨¬(fC.length:Int)=0:=by cases fC <;> simp;omega
  have vD:fD=[]∨¬(fD.length:Int)=0:=by cases fD <;> simp;omega
  clear z6 z8 z9 zB zC zD zE
  simp only[push_cast]at y6 y8 y9 yB yC yD yE
  rcases v6 with rfl |v6
  case inr=>
   simp(maxSteps:=1000000)(disch:=omega)only[push_cast,hal,h1,h3,g0,Int.lt_irrefl,k6,y6,v6,decide_false,Tryz.f4,↓WX,simprocAttr]
   exact⟨false,rfl,fun h=>by cases h⟩
  rcases v8 with rfl |v8
  case inr=>
   simp(maxSteps:=1000000)(disch:=omega)only[push_cast,hal,h1,h3,g0,Int.lt_irrefl,k6,y6,k8,y8,v8,Int.natCast_zero,decide_true,decide_false,Tryz.f4,↓WX,simprocAttr]
   exact⟨false,rfl,fun h=>by cases h⟩
  rcases v9 with rfl |v9
  case inr=>
   simp(maxSteps:=1000000)(disch:=omega)only[push_cast,hal,h1,h3,g0,Int.lt_irrefl,k6,y6,k8,y8,k9,y9,v9,Int.natCast_zero,decide_true,decide_false,Tryz.f4,↓WX,simprocAttr]
   exact⟨false,rfl,fun h=>by cases h⟩
  rcases vB with rfl |vB
  case inr=>
   simp(maxSteps:=1000000)(disch:=omega)only[push_cast,hal,h1,h3,g0,Int.lt_irrefl,k6,y6,k8,y8,k9,y9,kB,yB,vB,Int.natCast_zero,decide_true,decide_false,Tryz.f4,↓WX,simprocAttr]
   exact⟨false,rfl,fun h=>by cases h⟩
  rcases vC with rfl |vC
  case inr=>
   simp(maxSteps:=1000000)(disch:=omega)only[push_cast,hal,h1,h3,g0,Int.lt_irrefl,k6,y6,k8,y8,k9,y9,kB,yB,kC,yC,vC,Int.natCast_zero,decide_true,decide_false,Tryz.f4,↓WX,simprocAttr]
   exact⟨false,rfl,fun h=>by cases h⟩
  rcases vD with rfl |vD
  case inr=>
   simp(maxSteps:=1000000)(disch:=omega)only[push_cast,hal,h1,h3,g0,Int.lt_irrefl,k6,y6,k8,y8,k9,y9,kB,yB,kC,yC,kD,yD,vD,Int.natCast_zero,decide_true,decide_false,Tryz.f4,↓WX,simprocAttr]
   exact⟨false,rfl,fun h=>by cases h⟩
  simp(maxSteps:=1000000)(disch:=omega)only[push_cast,hal,h1,h3,g0,Int.lt_irrefl,k6,y6,k8,y8,k9,y9,kB,yB,kC,yC,kD,yD,kE,yE,Int.natCast_zero,decide_true,Tryz.f4,↓WX,simprocAttr]
  exact⟨_,rfl,fun _=>hF (n8 rfl) (nC rfl).1⟩
 obtain⟨_,T,ho,b,rfl,hb⟩:=this
 exact⟨b,hb,fun st S=>callD_pure rfl hp ho rfl⟩
def Dtd.id (x:Dtd):Lid:=⟨x.car,x.num,x.day,x.frm⟩
theorem id30_c (hn:1≤n) (x:Dtd) (st:Bool) (S:List Ob):callD E (dcall E n) st S 8 [.agg x.enc]=some (.agg x.id.enc,S):=by
 obtain⟨m,rfl⟩:∃m,n=m+1:=⟨n-1,by omega⟩
 simp only[Dtd.enc,Dtd.id,Lid.enc]
 have:WO (dcall E (m+1) 8 [.agg [.str x.car,.int .i64 x.num,.int .i64 x.day,.str x.frm,.str x.dst,.int .i64 x.dep,.int .i64 x.arr,.str x.eqp]] []) fun r T=>r=.agg [.str x.car,.int .i64 x.num,.int .i64 x.day,.str x.frm]:=by
  refine wo_dcall Tryz.func8 rfl (by decide) rfl 12 rfl (fun a hal ha=>?_)
  have h0:a[0]? =some (.agg [.str x.car,.int .i64 x.num,.int .i64 x.day,.str x.frm,.str x.dst,.int .i64 x.dep,.int .i64 x.arr,.str x.eqp]):=ha 0 (by simp)
  clear ha
  simp(maxSteps:=1000000)(disch:=omega)only[push_cast,hal,h0,Tryz.f8,↓WX,simprocAttr]
 obtain⟨_,T,ho,rfl⟩:=this
 exact callD_pure rfl rfl ho rfl
set_option maxHeartbeats 8000000 in
set_option maxRecDepth 100000 in
theorem legs30_c (hn:1050000≤n) {m:Mkt} (hm:MktB m) (hf:MktF m) (x:Int):∃r l,FLs 8 Dtd.enc r l∧l.length≤96∧(∀y∈l,DtdB y)∧∀st S,callD E (dcall E n) st S 7 [.agg m.enc,.int .i64 x]=some (r,S):=by
 obtain⟨n,rfl⟩:∃k,n=k+1:=⟨n-1,by omega⟩
 have hp:pureL [.agg m.enc,.int .i64 x]=true:=by rw[pureL_cons,D.pure,Mkt_pure];rfl
 have hfl:=hf.l
 have hd0:=hf.d0
 have hd1:=hf.d1
 have cd:=fun y hy=>Day08_c (n:=n) (lx:=m.lx) (by omega) hm.plb (by omega) hm.flt hf.legs y hy
 simp only[Mkt.enc,Plc.enc]at hp cd ⊢
 generalize m.p.aps.map Apt.enc=e1 at*
 generalize m.p.dts.map Dst.enc=e2 at*
 generalize m.l.map Flt.enc=e3 at*
 generalize m.w.map Shr.enc=e4 at*
 generalize m.c.map Cnn.enc=e5 at*
 generalize m.g.map Cfg.enc=e6 at*
 generalize m.s.map Sal.enc=e7 at*
 generalize m.t.fares.map Far.enc=e8 at*
 generalize m.t.rules.map Rul.enc=e9 at*
 generalize m.t.rous.map Rou.enc=e10 at*
 generalize m.t.taxes.map Tx.enc=e11 at*
 have:WO (dcall E (n+1) 7 [.agg [.sl 5 e1 m.p.apsx,.sl 3 e2 m.p.dtsx,.sl 6 e3 m.lx,.sl 9 e4 m.wx,.sl 4 e5 m.cx,.sl 2 e6 m.gx,.int .i64 m.days,.sl 3 e7 m.sx,.sl 9 e8 m.t.fx,.sl 15 e9 m.t.rx,.sl 3 e10 m.t.ox,.sl 7 e11 m.t.tx],.int .i64 x] []) fun r T=>∃l,GL 8 Dtd.enc T r l∧l.length≤96∧∀y∈l,DtdB y:=by
  refine wo_dcall Tryz.func7 rfl (by decide) rfl 32 rfl (fun a hal ha=>?_)
  have h0:a[0]? =some (.agg [.sl 5 e1 m.p.apsx,.sl 3 e2 m.p.dtsx,.sl 6 e3 m.lx,.sl 9 e4 m.wx,.sl 4 e5 m.cx,.sl 2 e6 m.gx,.int .i64 m.days,.sl 3 e7 m.sx,.sl 9 e8 m.t.fx,.sl 15 e9 m.t.rx,.sl 3 e10 m.t.ox,.sl 7 e11 m.t.tx]):=ha 0 (by simp)
  have h1:a[1]? =some (.int .i64 x):=ha 1 (by simp)
  clear ha
  obtain⟨S0,hS0⟩:∃S0,S0=[Ob.row 12 [[.sl 5 e1 m.p.apsx,.sl 3 e2 m.p.dtsx,.sl 6 e3 m.lx,.sl 9 e4 m.wx,.sl 4 e5 m.cx,.sl 2 e6 m.gx,.int .i64 m.days,.sl 3 e7 m.sx,.sl 9 e8 m.t.fx,.sl 15 e9 m.t.rx,.sl 3 e10 m.t.ox,.sl 7 e11 m.t.tx]]]:=⟨_,rfl⟩
  have g0:S0[0]? =some (.row 12 [[.sl 5 e1 m.p.apsx,.sl 3 e2 m.p.dtsx,.sl 6 e3 m.lx,.sl 9 e4 m.wx,.sl 4 e5 m.cx,.sl 2 e6 m.gx,.int .i64 m.days,.sl 3 e7 m.sx,.sl 9 e8 m.t.fx,.sl 15 e9 m.t.rx,.sl 3 e10 m.t.ox,.sl 7 e11 m.t.tx]]):=by rw[hS0];rfl
  refine wc_scut (fun a V=>V=S0∧a.length=32∧a[1]? =some (.int .i64 x)∧a[2]? =some (.loc 0 0 0)) ?_ ?_
  ·simp(maxSteps:=1000000)(disch:=omega)only[push_cast,hal,h0,h1,↓WX,simprocAttr]
   exact hS0.symm
  clear hal h0 h1 a
  clear hS0
  rintro a V ⟨rfl,hal,h1,h2⟩
  refine wc_scut (fun a W=>W=V∧a.length=32∧a[1]? =some (.int .i64 x)∧a[2]? =some (.loc 0 0 0)∧a[5]? =some (.nils)) ?_ ?_
  ·simp(maxSteps:=1000000)(disch:=omega)only[push_cast,hal,h1,h2,↓WX,simprocAttr]
  clear hal h1 h2 a
  rintro a W ⟨rfl,hal,h1,h2,h5⟩
  simp(maxSteps:=1000000)(disch:=omega)only[push_cast,↓WX,simprocAttr]
  refine wl_loop (fun i a T=>(KeepN 8 W T∧∃d l,a[5]? =some d∧GL 8 Dtd.enc T d l∧l.length≤48*i∧∀y∈l,DtdB y)∧a.length=32∧a[1]? =some (.int .i64 x)∧a[2]? =some (.loc 0 0 0)∧a[6]? =some (.int .i64 i)) m.days.toNat ?_ (by omega) ?_
  ·simp(maxSteps:=1000000)(disch:=omega)only[push_cast,hal,h1,h2,h5,Int.natCast_zero,simprocAttr]
   exact⟨KeepN.refl,_,[],rfl,GL.nil,by simp,fun y h=>by cases h⟩
  clear hal h1 h2 h5 a
  rintro i a T hi ⟨⟨k1,d,l,h5,g1,hl1,hy1⟩,hal,h1,h2,h6⟩
  have v0:=k1 _ _ _ (by decide) g0
  rcases Nat.lt_or_eq_of_le hi with hlt |hie
  case inr=>
   have q:¬(i:Int)<m.days:=by omega
   simp(maxSteps:=1000000)(disch:=omega)only[push_cast,hal,h2,h5,h6,v0,q,Tryz.f7,↓WX,simprocAttr]
   exact⟨_,g1,by omega,hy1⟩
  have q:(i:Int)<m.days:=by omega
  by_cases q1:0≤x
  case neg=>
   simp(maxSteps:=1000000)(disch:=omega)only[push_cast,hal,h1,h2,h5,h6,v0,q,q1,hlt,decide_false,wrap_ok,Int.natCast_add,Int.natCast_one,↓WX,simprocAttr]
   exact⟨k1,_,_,rfl,g1,by omega,hy1⟩
  by_cases q2:x<36523
  case neg=>
   simp(maxSteps:=1000000)(disch:=omega)only[push_cast,hal,h1,h2,h5,h6,v0,q,q1,q2,hlt,decide_true,decide_false,wrap_ok,Int.natCast_add,Int.natCast_one,↓WX,simprocAttr]
   exact⟨k1,_,_,rfl,g1,by omega,hy1⟩
  obtain⟨rd,o,hrd,hol,hoy,cdi⟩:=cd (x+i) (by omega)
  have w1:IntKind.i64.wrap (x+(i:Int))=x+i:=wrap_ok (by omega) (by omega)
  obtain⟨xi,hxi⟩:∃z,z=x+(i:Int):=⟨_,rfl⟩
  rw[←hxi]at w1 cdi
  have hsrc:srcOf T 8 rd=some (o.map Dtd.enc):=by
   rcases hrd with ⟨rfl,rfl⟩ | ⟨y,rfl⟩
   ·rfl
   ·simp[srcOf]
  obtain⟨d2,T2,p2,g2,k2,-⟩:=app_dtds g1 hsrc (by omega)
  simp(maxSteps:=1000000)(disch:=omega)only[push_cast,hal,h1,h2,h5,h6,v0,q,q1,q2,hlt,←hxi,w1,cdi,p2,decide_true,wrap_ok,Int.natCast_add,Int.natCast_one,↓WX,simprocAttr]
  refine⟨k1.trans k2,_,_,rfl,g2,by simp;omega,fun y hy=>?_⟩
  rcases List.mem_append.1 hy with h |h
  ·exact hy1 y h
  ·exact hoy y h
 obtain⟨r,T,ho,l,g,h1,h2⟩:=this
 obtain⟨r',hr,hfl'⟩:=g.fls (Dtds_pure l)
 exact⟨r',l,hfl',h1,h2,fun st S=>callD_pure rfl hp ho hr⟩
end
end Go.Proofs.YtkemehicndccmaaGreatDoor.Dm
