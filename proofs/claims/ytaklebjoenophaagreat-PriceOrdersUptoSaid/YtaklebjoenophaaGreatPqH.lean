/-
  Journeys that fit; of two valid prices of a journey just one is better: as a run of the machine.
  Of two different valid prices of a journey just one is better: as a run of the machine.
-/
import Derived.Test.YtaklebjoenophaaGreatPqG
import Derived.Test.YtaklebjoenophaaGreatZg
set_option linter.unusedSimpArgs false
set_option linter.unusedVariables false
namespace Go.Proofs.YtaklebjoenophaaGreat.Dm
open Go Gw
set_option linter.unusedSimpArgs false
set_option linter.unusedSimpArgs false
structure Jny where
 p:Plc
 t:Trf
 l:List Wnt
 lx:Bool
 pass:ByteArray
 sale:Int
def Jny.enc (j:Jny):List D:=[.sl 5 (j.p.aps.map Apt.enc) j.p.apsx,.sl 3 (j.p.dts.map Dst.enc) j.p.dtsx,.sl 9 (j.t.fares.map Far.enc) j.t.fx,.sl 15 (j.t.rules.map Rul.enc) j.t.rx,.sl 3 (j.t.rous.map Rou.enc) j.t.ox,.sl 7 (j.t.taxes.map Tx.enc) j.t.tx,.sl 8 (j.l.map Wnt.enc) j.lx,.str j.pass,.int .i64 j.sale]
theorem Jny_pure (j:Jny):pureL j.enc=true:=by
 simp only[D.pure,pureL_cons,pureL_nil,Bool.and_true,Bool.and_self,Jny.enc,Apts_pure,Dsts_pure,Fars_pure,Ruls_pure,Rous_pure,Txs_pure,Wnts_pure]
structure JnyB (j:Jny):Prop where
 apr:∀c∈j.p.aps,c.code.size≤1048576∧c.city.size≤1048576∧c.ctry.size≤1048576
 apl:j.p.aps.length≤1048576
 sh:∀a∈j.p.aps,a.sh.length≤1048576
 far:∀f∈j.t.fares,f.car.size≤1048576∧f.bas.size≤1048576∧f.cls.size≤1048576
 rul:∀r∈j.t.rules,RulB r
 rou:∀r∈j.t.rous,r.links.length≤1048576∧∀x∈r.links,x.1.size≤1048576∧x.2.size≤1048576
 tax:∀x∈j.t.taxes,TxB x
 len:j.l.length≤1048576
structure JnyF (j:Jny):Prop where
 l:j.l.length≤4
 fl:j.t.fares.length≤14
 rl:j.t.rules.length≤8
 ol:j.t.rous.length≤8
 tl:j.t.taxes.length≤8
 al:j.p.aps.length≤12
 dl:j.p.dts.length≤20
theorem len_fzP {S:List Ob} {d:D} {fs:List (Int×ByteArray)} (h:(d=.nils∧fs=[])∨∃y,d=.sl 2 (fs.map encF) y):dLen Tryz.prog S 51 d=some (.int .i64 fs.length):=by
 rcases h with ⟨rfl,rfl⟩ | ⟨y,rfl⟩
 ·simp only[push_cast]
 ·simp only[push_cast]
section
variable {n : Nat}
set_option maxHeartbeats 32000000 in
set_option maxRecDepth 100000 in
theorem fits28_c (hn:8000000≤n) {j:Jny} (hj:JnyB j):∃b,(b=true→JnyF j)∧∀st S,callD E (dcall E n) st S 8 [.agg j.enc]=some (.bool b,S):=by
 obtain⟨n,rfl⟩:∃k,n=k+1:=⟨n-1,by omega⟩
 have hp:pureL [.agg j.enc]=true:=by rw[pureL_cons,D.pure,Jny_pure];rfl
 obtain⟨bn,-,cn⟩:=near28_c (n:=n) (by omega) j.sale
 obtain⟨bt,-,ct⟩:=times28_c (n:=n) j.l j.lx hj.len (by omega)
 simp only[Jny.enc]at hp ⊢
 have:WO (dcall E (n+1) 8 [.agg [.sl 5 (j.p.aps.map Apt.enc) j.p.apsx,.sl 3 (j.p.dts.map Dst.enc) j.p.dtsx,.sl 9 (j.t.fares.map Far.enc) j.t.fx,.sl 15 (j.t.rules.map Rul.enc) j.t.rx,.sl 3 (j.t.rous.map Rou.enc) j.t.ox,.sl 7 (j.t.taxes.map Tx.enc) j.t.tx,.sl 8 (j.l.map Wnt.enc) j.lx,.str j.pass,.int .i64 j.sale]] []) fun r T=>∃b:Bool,r=.bool b∧(b=true→JnyF j):=by
  refine wo_dcall Tryz.func8 rfl (by decide) rfl 83 rfl (fun a hal ha=>?_)
  have h0:a[0]? =some (.agg [.sl 5 (j.p.aps.map Apt.enc) j.p.apsx,.sl 3 (j.p.dts.map Dst.enc) j.p.dtsx,.sl 9 (j.t.fares.map Far.enc) j.t.fx,.sl 15 (j.t.rules.map Rul.enc) j.t.rx,.sl 3 (j.t.rous.map Rou.enc) j.t.ox,.sl 7 (j.t.taxes.map Tx.enc) j.t.tx,.sl 8 (j.l.map Wnt.enc) j.lx,.str j.pass,.int .i64 j.sale]):=ha 0 (by simp)
  clear ha
  obtain⟨S0,hS0⟩:∃S0,S0=[Ob.row 9 [[.sl 5 (j.p.aps.map Apt.enc) j.p.apsx,.sl 3 (j.p.dts.map Dst.enc) j.p.dtsx,.sl 9 (j.t.fares.map Far.enc) j.t.fx,.sl 15 (j.t.rules.map Rul.enc) j.t.rx,.sl 3 (j.t.rous.map Rou.enc) j.t.ox,.sl 7 (j.t.taxes.map Tx.enc) j.t.tx,.sl 8 (j.l.map Wnt.enc) j.lx,.str j.pass,.int .i64 j.sale]]]:=⟨_,rfl⟩
  have g0:S0[0]? =some (.row 9 [[.sl 5 (j.p.aps.map Apt.enc) j.p.apsx,.sl 3 (j.p.dts.map Dst.enc) j.p.dtsx,.sl 9 (j.t.fares.map Far.enc) j.t.fx,.sl 15 (j.t.rules.map Rul.enc) j.t.rx,.sl 3 (j.t.rous.map Rou.enc) j.t.ox,.sl 7 (j.t.taxes.map Tx.enc) j.t.tx,.sl 8 (j.l.map Wnt.enc) j.lx,.str j.pass,.int .i64 j.sale]]):=by rw[hS0];rfl
  refine wc_scut (fun a V=>V=S0∧a.length=83∧a[1]? =some (.loc 0 0 0)) ?_ ?_
  ·simp(maxSteps:=1000000)(disch:=omega)only[push_cast,decide_not,decide_eq_true_eq,decide_eq_false_iff_not,bne_eq_false_iff_eq,beq_eq_false_iff_ne,gt_iff_lt,ne_eq,not_true_eq_false,not_false_eq_true,hal,h0,↓WX,simprocAttr]
   exact hS0.symm
  clear hal h0 a
  clear hS0
  rintro a V ⟨rfl,hal,h1⟩
  simp only[List.append_eq,List.cons_append,List.nil_append]
  cases c1:decide ((j.l.length:Int)≤4)
  ·simp(maxSteps:=1000000)(disch:=omega)only[push_cast,decide_not,decide_eq_true_eq,decide_eq_false_iff_not,bne_eq_false_iff_eq,beq_eq_false_iff_ne,gt_iff_lt,ne_eq,not_true_eq_false,not_false_eq_true,hal,h1,g0,c1,Tryz.f8,↓WX,simprocAttr]
   exact⟨false,rfl,fun h=>by cases h⟩
  cases bn
  ·simp(maxSteps:=1000000)(disch:=omega)only[push_cast,decide_not,decide_eq_true_eq,decide_eq_false_iff_not,bne_eq_false_iff_eq,beq_eq_false_iff_ne,gt_iff_lt,ne_eq,not_true_eq_false,not_false_eq_true,hal,h1,g0,c1,cn,Tryz.f8,↓WX,simprocAttr]
   exact⟨false,rfl,fun h=>by cases h⟩
  cases bt
  ·simp(maxSteps:=1000000)(disch:=omega)only[push_cast,decide_not,decide_eq_true_eq,decide_eq_false_iff_not,bne_eq_false_iff_eq,beq_eq_false_iff_ne,gt_iff_lt,ne_eq,not_true_eq_false,not_false_eq_true,hal,h1,g0,c1,cn,ct,Tryz.f8,↓WX,simprocAttr]
   exact⟨false,rfl,fun h=>by cases h⟩
  cases c2:decide ((j.t.fares.length:Int)≤14)
  ·simp(maxSteps:=1000000)(disch:=omega)only[push_cast,decide_not,decide_eq_true_eq,decide_eq_false_iff_not,bne_eq_false_iff_eq,beq_eq_false_iff_ne,gt_iff_lt,ne_eq,not_true_eq_false,not_false_eq_true,hal,h1,g0,c1,cn,ct,c2,Tryz.f8,↓WX,simprocAttr]
   exact⟨false,rfl,fun h=>by cases h⟩
  cases c3:decide ((j.t.rules.length:Int)≤8)
  ·simp(maxSteps:=1000000)(disch:=omega)only[push_cast,decide_not,decide_eq_true_eq,decide_eq_false_iff_not,bne_eq_false_iff_eq,beq_eq_false_iff_ne,gt_iff_lt,ne_eq,not_true_eq_false,not_false_eq_true,hal,h1,g0,c1,cn,ct,c2,c3,Tryz.f8,↓WX,simprocAttr]
   exact⟨false,rfl,fun h=>by cases h⟩
  cases c4:decide ((j.t.rous.length:Int)≤8)
  ·simp(maxSteps:=1000000)(disch:=omega)only[push_cast,decide_not,decide_eq_true_eq,decide_eq_false_iff_not,bne_eq_false_iff_eq,beq_eq_false_iff_ne,gt_iff_lt,ne_eq,not_true_eq_false,not_false_eq_true,hal,h1,g0,c1,cn,ct,c2,c3,c4,Tryz.f8,↓WX,simprocAttr]
   exact⟨false,rfl,fun h=>by cases h⟩
  cases c5:decide ((j.t.taxes.length:Int)≤8)
  ·simp(maxSteps:=1000000)(disch:=omega)only[push_cast,decide_not,decide_eq_true_eq,decide_eq_false_iff_not,bne_eq_false_iff_eq,beq_eq_false_iff_ne,gt_iff_lt,ne_eq,not_true_eq_false,not_false_eq_true,hal,h1,g0,c1,cn,ct,c2,c3,c4,c5,Tryz.f8,↓WX,simprocAttr]
   exact⟨false,rfl,fun h=>by cases h⟩
  cases c6:decide ((j.p.aps.length:Int)≤12)
  ·simp(maxSteps:=1000000)(disch:=omega)only[push_cast,decide_not,decide_eq_true_eq,decide_eq_false_iff_not,bne_eq_false_iff_eq,beq_eq_false_iff_ne,gt_iff_lt,ne_eq,not_true_eq_false,not_false_eq_true,hal,h1,g0,c1,cn,ct,c2,c3,c4,c5,c6,Tryz.f8,↓WX,simprocAttr]
   exact⟨false,rfl,fun h=>by cases h⟩
  cases c7:decide ((j.p.dts.length:Int)≤20)
  ·simp(maxSteps:=1000000)(disch:=omega)only[push_cast,decide_not,decide_eq_true_eq,decide_eq_false_iff_not,bne_eq_false_iff_eq,beq_eq_false_iff_ne,gt_iff_lt,ne_eq,not_true_eq_false,not_false_eq_true,hal,h1,g0,c1,cn,ct,c2,c3,c4,c5,c6,c7,Tryz.f8,↓WX,simprocAttr]
   exact⟨false,rfl,fun h=>by cases h⟩
  have q1:=of_decide_eq_true c1
  have q2:=of_decide_eq_true c2
  have q3:=of_decide_eq_true c3
  have q4:=of_decide_eq_true c4
  have q5:=of_decide_eq_true c5
  have q6:=of_decide_eq_true c6
  have q7:=of_decide_eq_true c7
  have hF:JnyF j:=⟨by omega,by omega,by omega,by omega,by omega,by omega,by omega⟩
  obtain⟨d6,f6,z6,-,k6⟩:=PCheck_c (n:=n) (p:=j.p) (by omega) (by omega) (by omega) (fun c hc=>by have:=hj.apr c hc;unfold AptR;omega)
  obtain⟨dD,⟨fD,zD,-,-⟩,kD⟩:=Check24_c (n:=n) (p:=j.p) (t:=j.t) (by omega) ⟨by omega,by omega,by omega,by omega,hj.far,hj.rul,hj.rou,hj.tax⟩ (by omega)
  obtain⟨dE,⟨fE,zE,-,-⟩,kE⟩:=Check27_c (n:=n) (l:=j.t.taxes) (lx:=j.t.tx) (by omega) hj.tax (by omega)
  have y6:=len_fzP (S:=V) z6
  have yD:=len_fzP (S:=V) zD
  have yE:=len_fzP (S:=V) zE
  simp only[Plc.enc,Trf.enc]at k6 kD
  clear z6 zD zE
  simp only[push_cast]at y6 yD yE
  cases c8:decide ((f6.length:Int)=0)
  ·simp(maxSteps:=1000000)(disch:=omega)only[push_cast,decide_not,decide_eq_true_eq,decide_eq_false_iff_not,bne_eq_false_iff_eq,beq_eq_false_iff_ne,gt_iff_lt,ne_eq,not_true_eq_false,not_false_eq_true,hal,h1,g0,c1,cn,ct,c2,c3,c4,c5,c6,c7,k6,y6,c8,Tryz.f8,↓WX,simprocAttr]
   exact⟨false,rfl,fun h=>by cases h⟩
  cases c9:decide ((fD.length:Int)=0)
  ·simp(maxSteps:=1000000)(disch:=omega)only[push_cast,decide_not,decide_eq_true_eq,decide_eq_false_iff_not,bne_eq_false_iff_eq,beq_eq_false_iff_ne,gt_iff_lt,ne_eq,not_true_eq_false,not_false_eq_true,hal,h1,g0,c1,cn,ct,c2,c3,c4,c5,c6,c7,k6,y6,c8,kD,yD,c9,Tryz.f8,↓WX,simprocAttr]
   exact⟨false,rfl,fun h=>by cases h⟩
  simp(maxSteps:=1000000)(disch:=omega)only[push_cast,decide_not,decide_eq_true_eq,decide_eq_false_iff_not,bne_eq_false_iff_eq,beq_eq_false_iff_ne,gt_iff_lt,ne_eq,not_true_eq_false,not_false_eq_true,hal,h1,g0,c1,cn,ct,c2,c3,c4,c5,c6,c7,k6,y6,c8,kD,yD,c9,kE,yE,Tryz.f8,↓WX,simprocAttr]
  exact⟨_,rfl,fun _=>hF⟩
 obtain⟨_,T,ho,b,rfl,hb⟩:=this
 exact⟨b,hb,fun st S=>callD_pure rfl hp ho rfl⟩
end
end Go.Proofs.YtaklebjoenophaaGreat.Dm
namespace Go.Proofs.YtaklebjoenophaaGreat.Dm
open Go Gw
set_option linter.unusedSimpArgs false
set_option linter.unusedSimpArgs false
theorem fstE_zero {α:Type} {f:α→Int}:∀ {l:List α},fstE f l=0→∀x∈l,f x=0
 | [],_,x,hx=>by cases hx
 |y::ys,h,x,hx=>by
  unfold fstE at h
  split at h
  ·rename_i c
   rcases List.mem_cons.1 hx with rfl |hx
   ·exact c
   ·exact fstE_zero h x hx
  ·rename_i c
   exact (c h).elim
theorem validF_zero {why:Prt→Int} {amt:Prt→Int×Int} {pct:Int→Int→Int×Int} {p:Plc} {t:Trf} {w:List Wnt} {s:ByteArray} {q:Quo} (h:validF why amt pct p t w s q=0):cvF q.parts 0 w.length=true∧(∀x∈q.parts,x.am=(amt x).1)∧∃z,sumsF pct p t w s q.parts=some z∧sameF (wantF z (pairsF t q.parts).1 q.parts) q=true:=by
 unfold validF at h
 split at h
 ·cases h
 split at h
 ·rename_i c
  split at h
  ·rename_i c2
   split at h
   ·split at h
    ·cases h
    ·rename_i z hz
     split at h
     ·rename_i c4
      refine⟨c,fun x hx=>?_,z,hz,c4⟩
      have:=fstE_zero c2 x hx
      unfold vfE at this
      split at this
      ·split at this
       ·rename_i g
        exact g.2.symm
       ·cases this
      ·rename_i g
       exact (g this).elim
     ·cases h
   ·rename_i c3
    exact (c3 h).elim
  ·rename_i c2
   exact (c2 h).elim
 ·cases h
section
variable {n : Nat}
theorem fns28 {j:Jny} (hj:JnyB j) (hf:JnyF j) (hn:60000000≤n):∃(W:Int→Int→Int→Int) (A:Int→Int→Int→Int×Int) (pct:Int→Int→Int×Int),
  (∀x y st S,callD E (dcall E n) st S 143 [.int .i64 x,.int .i64 y]=some (.tup [.int .i64 (pct x y).1,.int .i64 (pct x y).2],S))∧
  (∀x:Prt,0≤x.fr→x.fr<x.to→x.to≤j.l.length→∀st S,callD E (dcall E (n+2)) st S 33 [.agg j.p.enc,.agg j.t.enc,.int .i64 x.fa,.sl 8 (((j.l.map Wnt.enc).drop x.fr.toNat).take (x.to.toNat-x.fr.toNat)) (j.lx && decide (x.to.toNat=j.l.length)),.str j.pass,.int .i64 j.sale]=some (.int .i64 (W x.fr x.to x.fa),S))∧
  (∀x:Prt,0≤x.fr→x.fr<x.to→x.to≤j.l.length→∀st S,callD E (dcall E (n+2)) st S 34 [.agg j.p.enc,.agg j.t.enc,.int .i64 x.fa,.sl 8 (((j.l.map Wnt.enc).drop x.fr.toNat).take (x.to.toNat-x.fr.toNat)) (j.lx && decide (x.to.toNat=j.l.length)),.str j.pass]=some (.tup [.int .i64 (A x.fr x.to x.fa).1,.int .i64 (A x.fr x.to x.fa).2],S)):=by
 have hl:=hf.l
 have hol:=hf.ol
 have hrl:=hf.rl
 have hdl:=hf.dl
 have key:∀fr to fa:Int,∃(e:Int) (a b:Int),0≤fr→fr<to→to≤j.l.length→(∀st S,callD E (dcall E (n+2)) st S 33 [.agg j.p.enc,.agg j.t.enc,.int .i64 fa,.sl 8 (((j.l.map Wnt.enc).drop fr.toNat).take (to.toNat-fr.toNat)) (j.lx && decide (to.toNat=j.l.length)),.str j.pass,.int .i64 j.sale]=some (.int .i64 e,S))∧∀st S,callD E (dcall E (n+2)) st S 34 [.agg j.p.enc,.agg j.t.enc,.int .i64 fa,.sl 8 (((j.l.map Wnt.enc).drop fr.toNat).take (to.toNat-fr.toNat)) (j.lx && decide (to.toNat=j.l.length)),.str j.pass]=some (.tup [.int .i64 a,.int .i64 b],S):=fun fr to fa=>by
  by_cases h:0≤fr∧fr<to∧to≤j.l.length
  ·obtain⟨h1,h2,h3⟩:=h
   have hne:(j.l.drop fr.toNat).take (to.toNat-fr.toNat)≠[]:=fun e=>by
    have:=congrArg List.length e
    rw[List.length_take,List.length_drop,List.length_nil]at this
    omega
   have hll:((j.l.drop fr.toNat).take (to.toNat-fr.toNat)).length≤4:=by
    rw[List.length_take,List.length_drop]
    omega
   obtain⟨e,he⟩:=Why25_c (n:=n+2) j.p hj.apl hj.sh hdl j.t (by omega) (by omega) (fun r hr=>(hj.rul r hr).cnd) (fun r hr=>(hj.rou r hr).1) (by omega) fa ((j.l.drop fr.toNat).take (to.toNat-fr.toNat)) (j.lx && decide (to.toNat=j.l.length)) (by omega) hne j.pass j.sale
   obtain⟨a,b,hab⟩:=amount25_c (n:=n+2) j.p hj.apl hdl j.t (by omega) (by omega) (fun r hr=>(hj.rul r hr).pcl) (by omega) fa ((j.l.drop fr.toNat).take (to.toNat-fr.toNat)) (j.lx && decide (to.toNat=j.l.length)) (by omega) hne j.pass
   rw[List.map_take,List.map_drop]at he hab
   exact⟨e,a,b,fun _ _ _=>⟨he,hab⟩⟩
  ·exact⟨0,0,0,fun h1 h2 h3=>(h ⟨h1,h2,h3⟩).elim⟩
 have kp:∀x y:Int,∃q:Int×Int,∀st S,callD E (dcall E n) st S 143 [.int .i64 x,.int .i64 y]=some (.tup [.int .i64 q.1,.int .i64 q.2],S):=fun x y=>by
  obtain⟨q,e,h⟩:=percent02_c (n:=n) (by omega) x y
  exact⟨(q,e),h⟩
 refine⟨fun fr to fa=>(key fr to fa).choose,fun fr to fa=>((key fr to fa).choose_spec.choose,(key fr to fa).choose_spec.choose_spec.choose),fun x y=>(kp x y).choose,fun x y=>(kp x y).choose_spec,fun x h1 h2 h3=>?_,fun x h1 h2 h3=>?_⟩
 ·exact ((key x.fr x.to x.fa).choose_spec.choose_spec.choose_spec h1 h2 h3).1
 ·exact ((key x.fr x.to x.fa).choose_spec.choose_spec.choose_spec h1 h2 h3).2
set_option maxHeartbeats 32000000 in
set_option maxRecDepth 100000 in
theorem PriceOrders_d (hn:60000000≤n) {j:Jny} (hj:JnyB j) (u v:Quo) (hu:u.parts.length≤1048576∧u.pairs.length≤1048576∧u.taxes.length≤1048576) (hv:v.parts.length≤1048576∧v.pairs.length≤1048576∧v.taxes.length≤1048576):WO (dcall E (n+4) 6 [.agg j.enc,.agg u.enc,.agg v.enc] []) fun r T=>r=.bool true:=by
 have hex:=fun st S=>ex28_c (n:=n+3) (by omega) st S
 have p1:=PBetter_c (n:=n+3) u v (by omega) (by omega)
 have p2:=PBetter_c (n:=n+3) v u (by omega) (by omega)
 have r1:=RBetter_c (n:=n+3) u v (by omega) (by omega)
 have s1:=PSame_c (n:=n+3) u v (by omega) (by omega) (by omega) (by omega)
 have s2:=PSame_c (n:=n+3) u u (by omega) (by omega) (by omega) (by omega)
 have s3:=RSame_x (n:=n+3) u v (d1:=.sl 4 (u.parts.map Prt.enc) u.px) (d2:=.sl 2 (u.pairs.map encPr) u.qx) (d3:=.sl 2 (u.taxes.map encCh) u.tx) (e1:=.sl 4 (v.parts.map Prt.enc) v.px) (e2:=.sl 2 (v.pairs.map encPr) v.qx) (e3:=.sl 2 (v.taxes.map encCh) v.tx) (.inr ⟨_,rfl⟩) (.inr ⟨_,rfl⟩) (.inr ⟨_,rfl⟩) (.inr ⟨_,rfl⟩) (.inr ⟨_,rfl⟩) (.inr ⟨_,rfl⟩) (by omega) (by omega) (by omega) (by omega)
 rw[sameF_self]at s2
 obtain⟨bf,hbf,cf⟩:=fits28_c (n:=n+3) (by omega) hj
 have hasym:betterF u v=true→betterF v u=false:=betterF_asym
 have main:u.parts.length≤20→v.parts.length≤20→bf=true→∃eu ev:Int,(∀st S,callD E (dcall E (n+3)) st S 14 [.agg j.p.enc,.agg j.t.enc,.sl 8 (j.l.map Wnt.enc) j.lx,.str j.pass,.int .i64 j.sale,.agg u.enc]=some (.int .i64 eu,S))∧(∀st S,callD E (dcall E (n+3)) st S 14 [.agg j.p.enc,.agg j.t.enc,.sl 8 (j.l.map Wnt.enc) j.lx,.str j.pass,.int .i64 j.sale,.agg v.enc]=some (.int .i64 ev,S))∧(eu=0→ev=0→sameF u v= !(betterF u v || betterF v u)):=fun hu20 hv20 hb=>by
  have hf:=hbf hb
  have hl:=hf.l
  have hrl:=hf.rl
  have htl:=hf.tl
  obtain⟨W,A,pct,hp,hW,hA⟩:=fns28 (n:=n) hj hf hn
  have val:=fun (q:Quo) (h1:q.parts.length≤20) (h2:q.pairs.length≤1048576) (h3:q.taxes.length≤1048576)=>Valid28_d (n:=n) (fun x=>W x.fr x.to x.fa) (fun x=>A x.fr x.to x.fa) pct hp j.p hj.apl hj.sh j.t (by omega) (fun r hr=>(hj.rul r hr).cmb) (by omega) (fun x hx=>(hj.tax x hx).frl) j.l j.lx (by omega) j.pass j.sale q (by omega) h2 h3 (by omega) hW hA
  have pure:=fun (q:Quo)=>show pureL [.agg j.p.enc,.agg j.t.enc,.sl 8 (j.l.map Wnt.enc) j.lx,.str j.pass,.int .i64 j.sale,.agg q.enc]=true by simp only[pureL_cons,pureL_nil,D.pure,Plc_pure,Trf_pure,Wnts_pure,Quo_pure,Bool.and_true]
  obtain⟨_,T1,ho1,rfl⟩:=val u (by omega) hu.2.1 hu.2.2
  obtain⟨_,T2,ho2,rfl⟩:=val v (by omega) hv.2.1 hv.2.2
  refine⟨_,_,fun st S=>callD_pure rfl (pure u) ho1 rfl,fun st S=>callD_pure rfl (pure v) ho2 rfl,fun e1 e2=>?_⟩
  obtain⟨cu,au,zu,hzu,su⟩:=validF_zero e1
  obtain⟨cv,av,zv,hzv,sv⟩:=validF_zero e2
  refine orders_plain (amt:=fun fa fr to=>(A fr to fa).1) (want:=fun l=>match sumsF pct j.p j.t j.l j.pass l with |some z=>wantF z (pairsF j.t l).1 l |none=>u) cu cv au av ?_ ?_
  ·rw[hzu]
   exact su
  ·rw[hzv]
   exact sv
 generalize betterF u v=b1 at*
 generalize betterF v u=b2 at*
 generalize sameF u v=b3 at*
 simp only[Jny.enc,Plc.enc,Trf.enc,Quo.enc]at p1 p2 r1 s1 s2 s3 cf main ⊢
 refine wo_dcall Tryz.func6 rfl (by decide) rfl 123 rfl (fun a hal ha=>?_)
 have h0:a[0]? =some (.agg [.sl 5 (j.p.aps.map Apt.enc) j.p.apsx,.sl 3 (j.p.dts.map Dst.enc) j.p.dtsx,.sl 9 (j.t.fares.map Far.enc) j.t.fx,.sl 15 (j.t.rules.map Rul.enc) j.t.rx,.sl 3 (j.t.rous.map Rou.enc) j.t.ox,.sl 7 (j.t.taxes.map Tx.enc) j.t.tx,.sl 8 (j.l.map Wnt.enc) j.lx,.str j.pass,.int .i64 j.sale]):=ha 0 (by simp)
 have h1:a[1]? =some (.agg [.sl 4 (u.parts.map Prt.enc) u.px,.sl 2 (u.pairs.map encPr) u.qx,.sl 2 (u.taxes.map encCh) u.tx,.int .i64 u.fare,.int .i64 u.total]):=ha 1 (by simp)
 have h2:a[2]? =some (.agg [.sl 4 (v.parts.map Prt.enc) v.px,.sl 2 (v.pairs.map encPr) v.qx,.sl 2 (v.taxes.map encCh) v.tx,.int .i64 v.fare,.int .i64 v.total]):=ha 2 (by simp)
 clear ha
 obtain⟨S0,hS0⟩:∃S0,S0=[Ob.row 9 [[.sl 5 (j.p.aps.map Apt.enc) j.p.apsx,.sl 3 (j.p.dts.map Dst.enc) j.p.dtsx,.sl 9 (j.t.fares.map Far.enc) j.t.fx,.sl 15 (j.t.rules.map Rul.enc) j.t.rx,.sl 3 (j.t.rous.map Rou.enc) j.t.ox,.sl 7 (j.t.taxes.map Tx.enc) j.t.tx,.sl 8 (j.l.map Wnt.enc) j.lx,.str j.pass,.int .i64 j.sale]],Ob.row 5 [[.sl 4 (u.parts.map Prt.enc) u.px,.sl 2 (u.pairs.map encPr) u.qx,.sl 2 (u.taxes.map encCh) u.tx,.int .i64 u.fare,.int .i64 u.total]],Ob.row 5 [[.sl 4 (v.parts.map Prt.enc) v.px,.sl 2 (v.pairs.map encPr) v.qx,.sl 2 (v.taxes.map encCh) v.tx,.int .i64 v.fare,.int .i64 v.total]]]:=⟨_,rfl⟩
 have g0:S0[0]? =some (Ob.row 9 [[.sl 5 (j.p.aps.map Apt.enc) j.p.apsx,.sl 3 (j.p.dts.map Dst.enc) j.p.dtsx,.sl 9 (j.t.fares.map Far.enc) j.t.fx,.sl 15 (j.t.rules.map Rul.enc) j.t.rx,.sl 3 (j.t.rous.map Rou.enc) j.t.ox,.sl 7 (j.t.taxes.map Tx.enc) j.t.tx,.sl 8 (j.l.map Wnt.enc) j.lx,.str j.pass,.int .i64 j.sale]]):=by rw[hS0];rfl
 have g1:S0[1]? =some (Ob.row 5 [[.sl 4 (u.parts.map Prt.enc) u.px,.sl 2 (u.pairs.map encPr) u.qx,.sl 2 (u.taxes.map encCh) u.tx,.int .i64 u.fare,.int .i64 u.total]]):=by rw[hS0];rfl
 have g2:S0[2]? =some (Ob.row 5 [[.sl 4 (v.parts.map Prt.enc) v.px,.sl 2 (v.pairs.map encPr) v.qx,.sl 2 (v.taxes.map encCh) v.tx,.int .i64 v.fare,.int .i64 v.total]]):=by rw[hS0];rfl
 refine wc_scut (fun a V=>V=S0∧a.length=123∧a[3]? =some (.loc 0 0 0)∧a[4]? =some (.loc 1 0 0)∧a[5]? =some (.loc 2 0 0)) ?_ ?_
 ·simp(maxSteps:=1000000)(disch:=omega)only[push_cast,decide_not,decide_eq_true_eq,decide_eq_false_iff_not,bne_eq_false_iff_eq,beq_eq_false_iff_ne,gt_iff_lt,ne_eq,not_true_eq_false,not_false_eq_true,hal,h0,h1,h2,↓WX,simprocAttr]
  exact hS0.symm
 clear hal h0 h1 h2 a
 clear hS0
 rintro a V ⟨rfl,hal,h3,h4,h5⟩
 by_cases k1:(20:Int)<u.parts.length
 ·simp(maxSteps:=1000000)(disch:=omega)only[push_cast,decide_not,decide_eq_true_eq,decide_eq_false_iff_not,bne_eq_false_iff_eq,beq_eq_false_iff_ne,gt_iff_lt,ne_eq,not_true_eq_false,not_false_eq_true,hal,h3,h4,h5,g1,k1,hex,Tryz.f6,↓WX,simprocAttr]
 by_cases k2:(20:Int)<v.parts.length
 ·simp(maxSteps:=1000000)(disch:=omega)only[push_cast,decide_not,decide_eq_true_eq,decide_eq_false_iff_not,bne_eq_false_iff_eq,beq_eq_false_iff_ne,gt_iff_lt,ne_eq,not_true_eq_false,not_false_eq_true,hal,h3,h4,h5,g1,g2,k1,k2,hex,Tryz.f6,↓WX,simprocAttr]
 by_cases k3:(50:Int)<u.taxes.length
 ·simp(maxSteps:=1000000)(disch:=omega)only[push_cast,decide_not,decide_eq_true_eq,decide_eq_false_iff_not,bne_eq_false_iff_eq,beq_eq_false_iff_ne,gt_iff_lt,ne_eq,not_true_eq_false,not_false_eq_true,hal,h3,h4,h5,g1,g2,k1,k2,k3,hex,Tryz.f6,↓WX,simprocAttr]
 by_cases k4:(50:Int)<v.taxes.length
 ·simp(maxSteps:=1000000)(disch:=omega)only[push_cast,decide_not,decide_eq_true_eq,decide_eq_false_iff_not,bne_eq_false_iff_eq,beq_eq_false_iff_ne,gt_iff_lt,ne_eq,not_true_eq_false,not_false_eq_true,hal,h3,h4,h5,g1,g2,k1,k2,k3,k4,hex,Tryz.f6,↓WX,simprocAttr]
 by_cases k5:(20:Int)<u.pairs.length
 ·simp(maxSteps:=1000000)(disch:=omega)only[push_cast,decide_not,decide_eq_true_eq,decide_eq_false_iff_not,bne_eq_false_iff_eq,beq_eq_false_iff_ne,gt_iff_lt,ne_eq,not_true_eq_false,not_false_eq_true,hal,h3,h4,h5,g1,g2,k1,k2,k3,k4,k5,hex,Tryz.f6,↓WX,simprocAttr]
 by_cases k6:(20:Int)<v.pairs.length
 ·simp(maxSteps:=1000000)(disch:=omega)only[push_cast,decide_not,decide_eq_true_eq,decide_eq_false_iff_not,bne_eq_false_iff_eq,beq_eq_false_iff_ne,gt_iff_lt,ne_eq,not_true_eq_false,not_false_eq_true,hal,h3,h4,h5,g1,g2,k1,k2,k3,k4,k5,k6,hex,Tryz.f6,↓WX,simprocAttr]
 refine wc_scut (fun a W=>W=V∧a.length=123∧a[3]? =some (.loc 0 0 0)∧a[4]? =some (.loc 1 0 0)∧a[5]? =some (.loc 2 0 0)) ?_ ?_
 ·simp(maxSteps:=1000000)(disch:=omega)only[push_cast,decide_not,decide_eq_true_eq,decide_eq_false_iff_not,bne_eq_false_iff_eq,beq_eq_false_iff_ne,gt_iff_lt,ne_eq,not_true_eq_false,not_false_eq_true,hal,h3,h4,h5,g1,g2,k1,k2,k3,k4,k5,k6,↓WX,simprocAttr]
 clear hal h3 h4 h5 a
 rintro a W ⟨rfl,hal,h3,h4,h5⟩
 refine wc_scut (fun a V=>V=W∧a.length=123∧a[3]? =some (.loc 0 0 0)∧a[4]? =some (.loc 1 0 0)∧a[5]? =some (.loc 2 0 0)) ?_ ?_
 ·cases b1
  ·simp(maxSteps:=1000000)(disch:=omega)only[push_cast,decide_not,decide_eq_true_eq,decide_eq_false_iff_not,bne_eq_false_iff_eq,beq_eq_false_iff_ne,gt_iff_lt,ne_eq,not_true_eq_false,not_false_eq_true,hal,h3,h4,h5,g1,g2,p1,r1,s1,s2,s3,eq_bool,beq_self_eq_true,Bool.not_true,↓WX,simprocAttr]
  ·obtain rfl:=hasym rfl
   simp(maxSteps:=1000000)(disch:=omega)only[push_cast,decide_not,decide_eq_true_eq,decide_eq_false_iff_not,bne_eq_false_iff_eq,beq_eq_false_iff_ne,gt_iff_lt,ne_eq,not_true_eq_false,not_false_eq_true,hal,h3,h4,h5,g1,g2,p1,p2,r1,s1,s2,s3,eq_bool,beq_self_eq_true,Bool.not_true,↓WX,simprocAttr]
 clear hal h3 h4 h5 a
 rintro a V ⟨rfl,hal,h3,h4,h5⟩
 cases bf
 ·simp(maxSteps:=1000000)(disch:=omega)only[push_cast,decide_not,decide_eq_true_eq,decide_eq_false_iff_not,bne_eq_false_iff_eq,beq_eq_false_iff_ne,gt_iff_lt,ne_eq,not_true_eq_false,not_false_eq_true,hal,h3,h4,h5,g0,cf,hex,Bool.not_false,Tryz.f6,↓WX,simprocAttr]
 obtain⟨eu,ev,cu,cv,hord⟩:=main (by omega) (by omega) rfl
 cases q1:decide (eu=0)
 ·simp(maxSteps:=1000000)(disch:=omega)only[push_cast,decide_not,decide_eq_true_eq,decide_eq_false_iff_not,bne_eq_false_iff_eq,beq_eq_false_iff_ne,gt_iff_lt,ne_eq,not_true_eq_false,not_false_eq_true,hal,h3,h4,h5,g0,g1,cf,cu,q1,hex,Bool.not_true,Bool.not_false,Tryz.f6,↓WX,simprocAttr]
 cases q2:decide (ev=0)
 ·simp(maxSteps:=1000000)(disch:=omega)only[push_cast,decide_not,decide_eq_true_eq,decide_eq_false_iff_not,bne_eq_false_iff_eq,beq_eq_false_iff_ne,gt_iff_lt,ne_eq,not_true_eq_false,not_false_eq_true,hal,h3,h4,h5,g0,g1,g2,cf,cu,cv,q1,q2,hex,Bool.not_true,Bool.not_false,Tryz.f6,↓WX,simprocAttr]
 refine wc_scut (fun a W=>W=V∧a.length=123∧a[3]? =some (.loc 0 0 0)∧a[4]? =some (.loc 1 0 0)∧a[5]? =some (.loc 2 0 0)) ?_ ?_
 ·simp(maxSteps:=1000000)(disch:=omega)only[push_cast,decide_not,decide_eq_true_eq,decide_eq_false_iff_not,bne_eq_false_iff_eq,beq_eq_false_iff_ne,gt_iff_lt,ne_eq,not_true_eq_false,not_false_eq_true,hal,h3,h4,h5,g0,g1,g2,cf,cu,cv,q1,q2,Bool.not_true,Bool.not_false,↓WX,simprocAttr]
 clear hal h3 h4 h5 a
 rintro a W ⟨rfl,hal,h3,h4,h5⟩
 have hord:=hord (of_decide_eq_true q1) (of_decide_eq_true q2)
 cases b1
 ·cases b2
  ·have hb3:b3=true:=hord
   subst hb3
   simp(maxSteps:=1000000)(disch:=omega)only[push_cast,decide_not,decide_eq_true_eq,decide_eq_false_iff_not,bne_eq_false_iff_eq,beq_eq_false_iff_ne,gt_iff_lt,ne_eq,not_true_eq_false,not_false_eq_true,hal,h3,h4,h5,g1,g2,p1,p2,s1,hex,eq_bool,Bool.true_beq,Bool.not_true,Bool.not_false,Tryz.f6,↓WX,simprocAttr]
  ·have hb3:b3=false:=hord
   subst hb3
   simp(maxSteps:=1000000)(disch:=omega)only[push_cast,decide_not,decide_eq_true_eq,decide_eq_false_iff_not,bne_eq_false_iff_eq,beq_eq_false_iff_ne,gt_iff_lt,ne_eq,not_true_eq_false,not_false_eq_true,hal,h3,h4,h5,g1,g2,p1,p2,s1,hex,eq_bool,Bool.false_beq,Bool.not_true,Bool.not_false,Tryz.f6,↓WX,simprocAttr]
 ·have hb3:b3=false:=hord
  subst hb3
  simp(maxSteps:=1000000)(disch:=omega)only[push_cast,decide_not,decide_eq_true_eq,decide_eq_false_iff_not,bne_eq_false_iff_eq,beq_eq_false_iff_ne,gt_iff_lt,ne_eq,not_true_eq_false,not_false_eq_true,hal,h3,h4,h5,g1,g2,p1,p2,s1,hex,eq_bool,Bool.false_beq,Bool.not_true,Bool.not_false,Tryz.f6,↓WX,simprocAttr]
end
end Go.Proofs.YtaklebjoenophaaGreat.Dm
