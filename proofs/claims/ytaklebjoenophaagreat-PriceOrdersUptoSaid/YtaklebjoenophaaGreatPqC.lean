/-
  Taxes: how often one is due, and what they come to: the reference, exactly (but for the percentage, which is a function).
-/
import Derived.Test.YtaklebjoenophaaGreatPqB
import Derived.Test.YtaklebjoenophaaGreatTaB
set_option linter.unusedSimpArgs false
set_option linter.unusedVariables false
namespace Go.Proofs.YtaklebjoenophaaGreat.Dm
open Go Gw
set_option linter.unusedSimpArgs false
set_option linter.unusedSimpArgs false
def ctyS (p:Plc) (s:ByteArray):ByteArray:=
 match p.aps.find? fun a=>a.code.toList == s.toList with
 |some a=>a.ctry
 |none=>match p.aps.find? fun a=>a.city.toList == s.toList with
  |some a=>a.ctry
  |none=>ByteArray.mk #[]
def scpF (p:Plc) (x:Tx) (s:Wnt):Bool:=
 if x.scope=0 then decide (ctyS p s.fr=x.land) || decide (ctyS p s.to=x.land) else if x.scope=1 then decide (ctyS p s.fr=x.land) && decide (ctyS p s.to=x.land) else !(decide (ctyS p s.fr=x.land) == decide (ctyS p s.to=x.land))
def trnF (x:Tx) (a b:Wnt):Bool:=decide (a.to=b.fr) && (decide (b.dep≥a.arr) && decide (IntKind.i64.wrap (b.dep-a.arr)≤x.transit))
def optB {α:Type} (f:α→Bool):Option α→Bool
 |none=>false
 |some a=>f a
def dueF (p:Plc) (x:Tx) (u:Option Wnt) (s:Wnt) (v:Option Wnt):Nat:=
 if scpF p x s=false then 0
 else if (decide (x.kind=1) && (!decide (ctyS p s.fr=x.land) || optB (fun y=>trnF x y s) u))=true then 0
 else if (decide (x.kind=2) && (!decide (ctyS p s.to=x.land) || optB (fun y=>trnF x s y) v))=true then 0
 else 1
def sumD (p:Plc) (x:Tx):Option Wnt→List Wnt→Nat
 |_,[]=>0
 |u,s::ss=>dueF p x u s ss.head? +sumD p x (some s) ss
def timF (p:Plc) (x:Tx) (l:List Wnt) (s:ByteArray):Nat:=
 if (x.free.any fun y=>decide (y=s))=true then 0 else if x.kind<1∨4<x.kind then 0 else if x.kind=4 then min (sumD p x none l) 1 else sumD p x none l
theorem dueF_le (p:Plc) (x:Tx) (u:Option Wnt) (s:Wnt) (v:Option Wnt):dueF p x u s v≤1:=by
 unfold dueF
 repeat' split
 all_goals omega
theorem sumD_le (p:Plc) (x:Tx):∀(u:Option Wnt) (l:List Wnt),sumD p x u l≤l.length
 |_,[]=>Nat.le_refl _
 |u,s::ss=>by
  have:=sumD_le p x (some s) ss
  have:=dueF_le p x u s ss.head?
  rw[sumD,List.length_cons]
  omega
section
variable {n : Nat}
set_option maxHeartbeats 4000000 in
set_option maxRecDepth 100000 in
theorem rCty_c {p:Plc} {s:ByteArray} (hn:p.aps.length+2<n) (hz:p.aps.length≤9223372036854775800) (st:Bool) (S:List Ob):callD E (dcall E n) st S 225 [.agg p.enc,.str s]=some (.str (ctyS p s),S):=by
 obtain⟨m,rfl⟩:∃m,n=m+1:=⟨n-1,by omega⟩
 have c1:=PrFind_c (n:=m) (p:=p) (s:=s) (by omega) hz
 have c2:=rtown_c (n:=m) (p:=p) (s:=s) (by omega) hz
 have:WO (dcall E (m+1) 225 [.agg p.enc,.str s] []) fun d _=>d=.str (ctyS p s):=by
  refine wo_dcall Tryz.func225 rfl (by decide) rfl 23 rfl (fun a hal ha=>?_)
  have h0:a[0]? =some (.agg p.enc):=ha 0 (by simp)
  have h1:a[1]? =some (.str s):=ha 1 (by simp)
  clear ha
  unfold ctyS
  simp only[Plc.enc]at h0 c1 c2
  rcases ha:(p.aps.find? fun a=>a.code.toList == s.toList) with _ |a1
  ·rw[ha]at c1 ⊢
   simp only[foundD,zeroApt]at c1
   rcases hb:(p.aps.find? fun a=>a.city.toList == s.toList) with _ |a2
   ·rw[hb]at c2 ⊢
    simp only[foundD,zeroApt]at c2
    simp(maxSteps:=1000000)(disch:=omega)only[push_cast,decide_not,decide_eq_true_eq,decide_eq_false_iff_not,bne_eq_false_iff_eq,beq_eq_false_iff_ne,gt_iff_lt,ne_eq,not_true_eq_false,not_false_eq_true,hal,h0,h1,c1,c2,Bool.not_false,Tryz.f225,↓WX,simprocAttr]
   ·rw[hb]at c2 ⊢
    simp only[foundD,Apt.enc]at c2
    simp(maxSteps:=1000000)(disch:=omega)only[push_cast,decide_not,decide_eq_true_eq,decide_eq_false_iff_not,bne_eq_false_iff_eq,beq_eq_false_iff_ne,gt_iff_lt,ne_eq,not_true_eq_false,not_false_eq_true,hal,h0,h1,c1,c2,Bool.not_false,Tryz.f225,↓WX,simprocAttr]
  ·rw[ha]at c1 ⊢
   simp only[foundD,Apt.enc]at c1
   simp(maxSteps:=1000000)(disch:=omega)only[push_cast,decide_not,decide_eq_true_eq,decide_eq_false_iff_not,bne_eq_false_iff_eq,beq_eq_false_iff_ne,gt_iff_lt,ne_eq,not_true_eq_false,not_false_eq_true,hal,h0,h1,c1,Bool.not_true,Tryz.f225,↓WX,simprocAttr]
 obtain⟨d,T,ho,rfl⟩:=this
 exact callD_pure rfl (by simp[pureL_cons,pureL_nil,D.pure,Plc_pure]) ho rfl
theorem eq_bool (a b:Bool):dEq Tryz.prog 10000 4 (.bool a) (.bool b)=some (a == b):=by
 cases a <;> cases b <;> kernel_rfl
theorem Seg_pure (w:Wnt):pureL w.seg=true:=rfl
theorem Segs_pure (l:List Wnt):pureLL (l.map Wnt.seg)=true:=by
 induction l with
 |nil=>rfl
 |cons f fs ih=>rw[List.map_cons,pureLL_cons,ih,Seg_pure];rfl
set_option maxHeartbeats 8000000 in
set_option maxRecDepth 100000 in
theorem scoped27_x (p:Plc) (hpa:p.aps.length≤1048576) (x:Tx) (s:Wnt) (hn:1048600≤n):∀st S,callD E (dcall E n) st S 224 [.agg p.enc,.agg x.enc,.agg s.seg]=some (.bool (scpF p x s),S):=by
 obtain⟨m,rfl⟩:∃m,n=m+1:=⟨n-1,by omega⟩
 have hp:pureL [.agg p.enc,.agg x.enc,.agg s.seg]=true:=by simp only[pureL_cons,pureL_nil,D.pure,Plc_pure,Tx_pure,Seg_pure,Bool.and_true]
 have c1:=fun st S=>rCty_c (n:=m) (p:=p) (s:=s.fr) (by omega) (by omega) st S
 have c2:=fun st S=>rCty_c (n:=m) (p:=p) (s:=s.to) (by omega) (by omega) st S
 unfold scpF
 generalize ctyS p s.fr=u at*
 generalize ctyS p s.to=v at*
 simp only[Plc.enc,Tx.enc,Wnt.seg]at hp c1 c2 ⊢
 have:WO (dcall E (m+1) 224 [.agg [.sl 5 (p.aps.map Apt.enc) p.apsx,.sl 3 (p.dts.map Dst.enc) p.dtsx],.agg [.str x.code,.int .i64 x.kind,.str x.land,.int .i64 x.amount,.int .i64 x.scope,.int .i64 x.transit,.sl 1 (x.free.map Cnd.encT) x.freex],.agg [.str s.car,.int .i64 s.num,.int .i64 s.day,.str s.fr,.str s.to,.int .i64 s.dep,.int .i64 s.arr]] []) fun r T=>r=.bool (if x.scope=0 then decide (u=x.land) || decide (v=x.land) else if x.scope=1 then decide (u=x.land) && decide (v=x.land) else !(decide (u=x.land) == decide (v=x.land))):=by
  refine wo_dcall Tryz.func224 rfl (by decide) rfl 40 rfl (fun a hal ha=>?_)
  have h0:a[0]? =some (.agg [.sl 5 (p.aps.map Apt.enc) p.apsx,.sl 3 (p.dts.map Dst.enc) p.dtsx]):=ha 0 (by simp)
  have h1:a[1]? =some (.agg [.str x.code,.int .i64 x.kind,.str x.land,.int .i64 x.amount,.int .i64 x.scope,.int .i64 x.transit,.sl 1 (x.free.map Cnd.encT) x.freex]):=ha 1 (by simp)
  have h2:a[2]? =some (.agg [.str s.car,.int .i64 s.num,.int .i64 s.day,.str s.fr,.str s.to,.int .i64 s.dep,.int .i64 s.arr]):=ha 2 (by simp)
  clear ha
  cases e1:decide (u=x.land) <;> cases e2:decide (v=x.land) <;> by_cases k0:x.scope=0
  all_goals first
   | (simp only[if_pos k0]
      simp(maxSteps:=1000000)(disch:=omega)only[push_cast,decide_not,decide_eq_true_eq,decide_eq_false_iff_not,bne_eq_false_iff_eq,beq_eq_false_iff_ne,gt_iff_lt,ne_eq,not_true_eq_false,not_false_eq_true,hal,h0,h1,h2,c1,c2,e1,e2,k0,str_eq,decide_true,Bool.or_false,Bool.or_true,Bool.true_or,Bool.false_or,Bool.or_self,Tryz.f224,↓WX,simprocAttr]
      done)
   | (simp only[if_neg k0]
      by_cases k1:x.scope=1
      ·simp only[if_pos k1]
       simp(maxSteps:=1000000)(disch:=omega)only[push_cast,decide_not,decide_eq_true_eq,decide_eq_false_iff_not,bne_eq_false_iff_eq,beq_eq_false_iff_ne,gt_iff_lt,ne_eq,not_true_eq_false,not_false_eq_true,hal,h0,h1,h2,c1,c2,e1,e2,k0,k1,str_eq,decide_true,decide_false,Bool.and_false,Bool.and_true,Bool.true_and,Bool.false_and,Bool.and_self,Tryz.f224,↓WX,simprocAttr]
      ·simp only[if_neg k1]
       simp(maxSteps:=1000000)(disch:=omega)only[push_cast,decide_not,decide_eq_true_eq,decide_eq_false_iff_not,bne_eq_false_iff_eq,beq_eq_false_iff_ne,gt_iff_lt,ne_eq,not_true_eq_false,not_false_eq_true,hal,h0,h1,h2,c1,c2,e1,e2,k0,k1,eq_bool,beq_self_eq_true,str_eq,decide_true,decide_false,Bool.not_true,Bool.not_false,Bool.false_beq,Bool.true_beq,Tryz.f224,↓WX,simprocAttr])
 obtain⟨_,T,ho,rfl⟩:=this
 exact fun st S=>callD_pure rfl hp ho rfl
set_option maxHeartbeats 8000000 in
set_option maxRecDepth 100000 in
theorem transit27_x (x:Tx) (s u:Wnt) (hn:1≤n):∀st S,callD E (dcall E n) st S 226 [.agg x.enc,.agg s.seg,.agg u.seg]=some (.bool (trnF x s u),S):=by
 obtain⟨m,rfl⟩:∃m,n=m+1:=⟨n-1,by omega⟩
 have hp:pureL [.agg x.enc,.agg s.seg,.agg u.seg]=true:=by simp only[pureL_cons,pureL_nil,D.pure,Tx_pure,Seg_pure,Bool.and_true]
 unfold trnF
 simp only[Tx.enc,Wnt.seg]at hp ⊢
 have:WO (dcall E (m+1) 226 [.agg [.str x.code,.int .i64 x.kind,.str x.land,.int .i64 x.amount,.int .i64 x.scope,.int .i64 x.transit,.sl 1 (x.free.map Cnd.encT) x.freex],.agg [.str s.car,.int .i64 s.num,.int .i64 s.day,.str s.fr,.str s.to,.int .i64 s.dep,.int .i64 s.arr],.agg [.str u.car,.int .i64 u.num,.int .i64 u.day,.str u.fr,.str u.to,.int .i64 u.dep,.int .i64 u.arr]] []) fun r T=>r=.bool (decide (s.to=u.fr) && (decide (u.dep≥s.arr) && decide (IntKind.i64.wrap (u.dep-s.arr)≤x.transit))):=by
  refine wo_dcall Tryz.func226 rfl (by decide) rfl 29 rfl (fun a hal ha=>?_)
  have h0:a[0]? =some (.agg [.str x.code,.int .i64 x.kind,.str x.land,.int .i64 x.amount,.int .i64 x.scope,.int .i64 x.transit,.sl 1 (x.free.map Cnd.encT) x.freex]):=ha 0 (by simp)
  have h1:a[1]? =some (.agg [.str s.car,.int .i64 s.num,.int .i64 s.day,.str s.fr,.str s.to,.int .i64 s.dep,.int .i64 s.arr]):=ha 1 (by simp)
  have h2:a[2]? =some (.agg [.str u.car,.int .i64 u.num,.int .i64 u.day,.str u.fr,.str u.to,.int .i64 u.dep,.int .i64 u.arr]):=ha 2 (by simp)
  clear ha
  cases e1:decide (s.to=u.fr)
  ·simp(maxSteps:=1000000)(disch:=omega)only[push_cast,decide_not,decide_eq_true_eq,decide_eq_false_iff_not,bne_eq_false_iff_eq,beq_eq_false_iff_ne,gt_iff_lt,ne_eq,not_true_eq_false,not_false_eq_true,hal,h0,h1,h2,e1,str_eq,Bool.false_and,Tryz.f226,↓WX,simprocAttr]
  cases e2:decide (u.dep≥s.arr)
  ·simp(maxSteps:=1000000)(disch:=omega)only[push_cast,decide_not,decide_eq_true_eq,decide_eq_false_iff_not,bne_eq_false_iff_eq,beq_eq_false_iff_ne,gt_iff_lt,ne_eq,not_true_eq_false,not_false_eq_true,hal,h0,h1,h2,e1,e2,str_eq,Bool.false_and,Bool.true_and,Tryz.f226,↓WX,simprocAttr]
  ·simp(maxSteps:=1000000)(disch:=omega)only[push_cast,decide_not,decide_eq_true_eq,decide_eq_false_iff_not,bne_eq_false_iff_eq,beq_eq_false_iff_ne,gt_iff_lt,ne_eq,not_true_eq_false,not_false_eq_true,hal,h0,h1,h2,e1,e2,str_eq,Bool.true_and,Tryz.f226,↓WX,simprocAttr]
 obtain⟨_,T,ho,rfl⟩:=this
 exact fun st S=>callD_pure rfl hp ho rfl
set_option maxHeartbeats 16000000 in
set_option maxRecDepth 100000 in
theorem due27_x (p:Plc) (hpa:p.aps.length≤1048576) (x:Tx) (l:List Wnt) (lx:Bool) (hl:l.length≤1048576) {i:Nat} {s:Wnt} (hs:l[i]? =some s) (hn:1048700≤n):∀st S,callD E (dcall E n) st S 199 [.agg p.enc,.agg x.enc,.sl 7 (l.map Wnt.seg) lx,.int .i64 i]=some (.int .i64 (dueF p x (if i=0 then none else l[i-1]?) s l[i+1]?),S):=by
 obtain⟨m,rfl⟩:∃m,n=m+1:=⟨n-1,by omega⟩
 have hp:pureL [.agg p.enc,.agg x.enc,.sl 7 (l.map Wnt.seg) lx,.int .i64 i]=true:=by simp only[pureL_cons,pureL_nil,D.pure,Plc_pure,Tx_pure,Segs_pure,Bool.and_true]
 have hlt:i<l.length:=(List.getElem?_eq_some_iff.1 hs).1
 have csc:=scoped27_x (n:=m) p hpa x s (by omega)
 have c1:=fun st S=>rCty_c (n:=m) (p:=p) (s:=s.fr) (by omega) (by omega) st S
 have c2:=fun st S=>rCty_c (n:=m) (p:=p) (s:=s.to) (by omega) (by omega) st S
 have ctr:=fun u v=>transit27_x (n:=m) x u v (by omega)
 unfold dueF
 generalize scpF p x s=bs at*
 generalize ctyS p s.fr=u at*
 generalize ctyS p s.to=v at*
 -- the neighbours
 obtain⟨pv,hpv⟩:∃pv,pv=(if i=0 then none else l[i-1]?):=⟨_,rfl⟩
 obtain⟨nx,hnx⟩:∃nx,nx=l[i+1]? :=⟨_,rfl⟩
 rw[←hpv,←hnx]
 obtain⟨b1,hb1⟩:∃b,b=optB (fun y=>trnF x y s) pv:=⟨_,rfl⟩
 obtain⟨b2,hb2⟩:∃b,b=optB (fun y=>trnF x s y) nx:=⟨_,rfl⟩
 rw[←hb1,←hb2]
 simp only[Plc.enc,Tx.enc,Wnt.seg]at hp csc c1 c2 ctr ⊢
 have hge:(0≤(i:Int)+1)=True:=eq_true (by omega)
 have:WO (dcall E (m+1) 199 [.agg [.sl 5 (p.aps.map Apt.enc) p.apsx,.sl 3 (p.dts.map Dst.enc) p.dtsx],.agg [.str x.code,.int .i64 x.kind,.str x.land,.int .i64 x.amount,.int .i64 x.scope,.int .i64 x.transit,.sl 1 (x.free.map Cnd.encT) x.freex],.sl 7 (l.map Wnt.seg) lx,.int .i64 i] []) fun r T=>r=.int .i64 ((if bs=false then 0 else if (decide (x.kind=1) && (!decide (u=x.land) || b1))=true then 0 else if (decide (x.kind=2) && (!decide (v=x.land) || b2))=true then 0 else 1:Nat):Int):=by
  obtain⟨P0,hP0⟩:∃P0:List Ob,P0=[Ob.row 2 [[.sl 5 (p.aps.map Apt.enc) p.apsx,.sl 3 (p.dts.map Dst.enc) p.dtsx]],Ob.row 7 [[.str x.code,.int .i64 x.kind,.str x.land,.int .i64 x.amount,.int .i64 x.scope,.int .i64 x.transit,.sl 1 (x.free.map Cnd.encT) x.freex]]]:=⟨_,rfl⟩
  have g0:P0[0]? =some (Ob.row 2 [[.sl 5 (p.aps.map Apt.enc) p.apsx,.sl 3 (p.dts.map Dst.enc) p.dtsx]]):=by rw[hP0];rfl
  have g1:P0[1]? =some (Ob.row 7 [[.str x.code,.int .i64 x.kind,.str x.land,.int .i64 x.amount,.int .i64 x.scope,.int .i64 x.transit,.sl 1 (x.free.map Cnd.encT) x.freex]]):=by rw[hP0];rfl
  refine wo_dcall Tryz.func199 rfl (by decide) rfl 84 rfl (fun a hal ha=>?_)
  have h0:a[0]? =some (.agg [.sl 5 (p.aps.map Apt.enc) p.apsx,.sl 3 (p.dts.map Dst.enc) p.dtsx]):=ha 0 (by simp)
  have h1:a[1]? =some (.agg [.str x.code,.int .i64 x.kind,.str x.land,.int .i64 x.amount,.int .i64 x.scope,.int .i64 x.transit,.sl 1 (x.free.map Cnd.encT) x.freex]):=ha 1 (by simp)
  have h2:a[2]? =some (.sl 7 (l.map Wnt.seg) lx):=ha 2 (by simp)
  have h3:a[3]? =some (.int .i64 i):=ha 3 (by simp)
  clear ha
  refine wc_scut (fun a V=>V=P0∧a.length=84∧a[2]? =some (.sl 7 (l.map Wnt.seg) lx)∧a[3]? =some (.int .i64 i)∧a[4]? =some (.loc 0 0 0)∧a[5]? =some (.loc 1 0 0)) ?_ ?_
  ·simp(maxSteps:=1000000)(disch:=omega)only[push_cast,decide_not,decide_eq_true_eq,decide_eq_false_iff_not,bne_eq_false_iff_eq,beq_eq_false_iff_ne,gt_iff_lt,ne_eq,not_true_eq_false,not_false_eq_true,hal,h0,h1,h2,h3,↓WX,simprocAttr]
   rw[hP0]
  clear hal h0 h1 h2 h3 a
  rintro a V ⟨rfl,hal,h2,h3,h4,h5⟩
  clear hP0
  cases bs
  ·simp only[if_true]
   simp(maxSteps:=1000000)(disch:=omega)only[push_cast,decide_not,decide_eq_true_eq,decide_eq_false_iff_not,bne_eq_false_iff_eq,beq_eq_false_iff_ne,gt_iff_lt,ne_eq,not_true_eq_false,not_false_eq_true,hal,h2,h3,h4,h5,g0,g1,hlt,hs,csc,Wnt.seg,Bool.not_false,Tryz.f199,↓WX,simprocAttr]
  simp only[Bool.true_eq_false,if_false]
  refine wc_scut (fun a W=>W=V∧a.length=84∧a[2]? =some (.sl 7 (l.map Wnt.seg) lx)∧a[3]? =some (.int .i64 i)∧a[4]? =some (.loc 0 0 0)∧a[5]? =some (.loc 1 0 0)) ?_ ?_
  ·simp(maxSteps:=1000000)(disch:=omega)only[push_cast,decide_not,decide_eq_true_eq,decide_eq_false_iff_not,bne_eq_false_iff_eq,beq_eq_false_iff_ne,gt_iff_lt,ne_eq,not_true_eq_false,not_false_eq_true,hal,h2,h3,h4,h5,g0,g1,hlt,hs,csc,Wnt.seg,Bool.not_true,↓WX,simprocAttr]
  clear hal h2 h3 h4 h5 a
  rintro a W ⟨rfl,hal,h2,h3,h4,h5⟩
  obtain⟨q1,hq1⟩:∃q,q=(decide (x.kind=1) && (!decide (u=x.land) || b1)):=⟨_,rfl⟩
  obtain⟨q2,hq2⟩:∃q,q=(decide (x.kind=2) && (!decide (v=x.land) || b2)):=⟨_,rfl⟩
  rw[←hq1,←hq2]
  refine wc_rcut (fun a V=>(V=W∧q1=false)∧a.length=84∧a[2]? =some (.sl 7 (l.map Wnt.seg) lx)∧a[3]? =some (.int .i64 i)∧a[4]? =some (.loc 0 0 0)∧a[5]? =some (.loc 1 0 0)) ?_ ?_
  ·cases e1:decide (x.kind=1)
   ·rw[e1,Bool.false_and]at hq1
    subst hq1
    simp(maxSteps:=1000000)(disch:=omega)only[push_cast,decide_not,decide_eq_true_eq,decide_eq_false_iff_not,bne_eq_false_iff_eq,beq_eq_false_iff_ne,gt_iff_lt,ne_eq,not_true_eq_false,not_false_eq_true,hal,h2,h3,h4,h5,g0,g1,e1,false_and,false_or,or_false,true_and,↓WX,simprocAttr]
   cases e2:decide (u=x.land)
   ·rw[e1,e2,Bool.true_and,Bool.not_false,Bool.true_or]at hq1
    subst hq1
    simp only[if_true]
    simp(maxSteps:=1000000)(disch:=omega)only[push_cast,decide_not,decide_eq_true_eq,decide_eq_false_iff_not,bne_eq_false_iff_eq,beq_eq_false_iff_ne,gt_iff_lt,ne_eq,not_true_eq_false,not_false_eq_true,hal,h2,h3,h4,h5,g0,g1,hlt,hs,c1,e1,e2,str_eq,Wnt.seg,Bool.not_false,false_and,false_or,or_false,true_and,Tryz.f199,↓WX,simprocAttr]
   rw[e1,e2,Bool.true_and,Bool.not_true,Bool.false_or]at hq1
   subst hq1
   rcases i with _ |k
   ·rw[if_pos rfl]at hpv
    subst hpv
    have hb1':q1=false:=hb1
    subst hb1'
    simp(maxSteps:=1000000)(disch:=omega)only[push_cast,decide_not,decide_eq_true_eq,decide_eq_false_iff_not,bne_eq_false_iff_eq,beq_eq_false_iff_ne,gt_iff_lt,ne_eq,not_true_eq_false,not_false_eq_true,hal,h2,h3,h4,h5,g0,g1,hlt,hs,c1,e1,e2,str_eq,Wnt.seg,Bool.not_true,Int.natCast_zero,Int.lt_irrefl,false_and,false_or,or_false,true_and,↓WX,simprocAttr]
   rw[if_neg (by omega),show k+1-1=k by omega]at hpv
   have hkl:k<l.length:=by omega
   obtain⟨y,hy⟩:∃y,l[k]? =some y:=⟨l[k],by simp⟩
   rw[hy]at hpv
   subst hpv
   have hb1':q1=trnF x y s:=hb1
   have ct:=ctr y s
   rw[←hb1']at ct
   have hw1:IntKind.i64.wrap ((k:Int)+1-1)=k:=by rw[show (k:Int)+1-1=k by omega];exact wrap_ok (by omega) (by omega)
   have hgk:(0≤(k:Int)+1)=True:=eq_true (by omega)
   have hgk':((0:Int)<(k:Int)+1)=True:=eq_true (by omega)
   have htk:((k:Int)+1).toNat=k+1:=by omega
   cases q1
   ·simp(maxSteps:=1000000)(disch:=omega)only[push_cast,decide_not,decide_eq_true_eq,decide_eq_false_iff_not,bne_eq_false_iff_eq,beq_eq_false_iff_ne,gt_iff_lt,ne_eq,not_true_eq_false,not_false_eq_true,hal,h2,h3,h4,h5,g0,g1,hlt,hs,hkl,hy,hw1,hgk,hgk',htk,ct,c1,e1,e2,str_eq,Wnt.seg,Bool.not_true,Int.natCast_add,Int.natCast_one,false_and,false_or,or_false,true_and,↓WX,simprocAttr]
   ·simp only[if_true]
    simp(maxSteps:=1000000)(disch:=omega)only[push_cast,decide_not,decide_eq_true_eq,decide_eq_false_iff_not,bne_eq_false_iff_eq,beq_eq_false_iff_ne,gt_iff_lt,ne_eq,not_true_eq_false,not_false_eq_true,hal,h2,h3,h4,h5,g0,g1,hlt,hs,hkl,hy,hw1,hgk,hgk',htk,ct,c1,e1,e2,str_eq,Wnt.seg,Bool.not_true,Int.natCast_add,Int.natCast_one,false_and,false_or,or_false,true_and,Tryz.f199,↓WX,simprocAttr]
  clear hal h2 h3 h4 h5 a
  rintro a V ⟨⟨rfl,rfl⟩,hal,h2,h3,h4,h5⟩
  simp only[Bool.false_eq_true,if_false]
  refine wc_rcut (fun a W=>(W=V∧q2=false)∧a.length=84∧a[2]? =some (.sl 7 (l.map Wnt.seg) lx)∧a[3]? =some (.int .i64 i)∧a[4]? =some (.loc 0 0 0)∧a[5]? =some (.loc 1 0 0)) ?_ ?_
  ·cases e1:decide (x.kind=2)
   ·rw[e1,Bool.false_and]at hq2
    subst hq2
    simp(maxSteps:=1000000)(disch:=omega)only[push_cast,decide_not,decide_eq_true_eq,decide_eq_false_iff_not,bne_eq_false_iff_eq,beq_eq_false_iff_ne,gt_iff_lt,ne_eq,not_true_eq_false,not_false_eq_true,hal,h2,h3,h4,h5,g0,g1,e1,false_and,false_or,or_false,true_and,↓WX,simprocAttr]
   cases e2:decide (v=x.land)
   ·rw[e1,e2,Bool.true_and,Bool.not_false,Bool.true_or]at hq2
    subst hq2
    simp only[if_true]
    simp(maxSteps:=1000000)(disch:=omega)only[push_cast,decide_not,decide_eq_true_eq,decide_eq_false_iff_not,bne_eq_false_iff_eq,beq_eq_false_iff_ne,gt_iff_lt,ne_eq,not_true_eq_false,not_false_eq_true,hal,h2,h3,h4,h5,g0,g1,hlt,hs,c2,e1,e2,str_eq,Wnt.seg,Bool.not_false,false_and,false_or,or_false,true_and,Tryz.f199,↓WX,simprocAttr]
   rw[e1,e2,Bool.true_and,Bool.not_true,Bool.false_or]at hq2
   subst hq2
   by_cases hi1:i+1<l.length
   ·have hi1c:((i:Int)+1<l.length)=True:=eq_true (by omega)
    obtain⟨y,hy⟩:∃y,l[i+1]? =some y:=⟨l[i+1],by simp⟩
    rw[hy]at hnx
    subst hnx
    have hb2':q2=trnF x s y:=hb2
    have ct:=ctr s y
    rw[←hb2']at ct
    have htk:((i:Int)+1).toNat=i+1:=by omega
    cases q2
    ·simp(maxSteps:=1000000)(disch:=omega)only[push_cast,decide_not,decide_eq_true_eq,decide_eq_false_iff_not,bne_eq_false_iff_eq,beq_eq_false_iff_ne,gt_iff_lt,ne_eq,not_true_eq_false,not_false_eq_true,hal,h2,h3,h4,h5,g0,g1,hlt,hs,hi1,hi1c,hy,hge,htk,ct,c2,e1,e2,str_eq,Wnt.seg,Bool.not_true,wrap_ok,false_and,false_or,or_false,true_and,↓WX,simprocAttr]
    ·simp only[if_true]
     simp(maxSteps:=1000000)(disch:=omega)only[push_cast,decide_not,decide_eq_true_eq,decide_eq_false_iff_not,bne_eq_false_iff_eq,beq_eq_false_iff_ne,gt_iff_lt,ne_eq,not_true_eq_false,not_false_eq_true,hal,h2,h3,h4,h5,g0,g1,hlt,hs,hi1,hi1c,hy,hge,htk,ct,c2,e1,e2,str_eq,Wnt.seg,Bool.not_true,wrap_ok,false_and,false_or,or_false,true_and,Tryz.f199,↓WX,simprocAttr]
   ·have hi1c:((i:Int)+1<l.length)=False:=eq_false (by omega)
    rw[List.getElem?_eq_none (by omega)]at hnx
    subst hnx
    have hb2':q2=false:=hb2
    subst hb2'
    simp(maxSteps:=1000000)(disch:=omega)only[push_cast,decide_not,decide_eq_true_eq,decide_eq_false_iff_not,bne_eq_false_iff_eq,beq_eq_false_iff_ne,gt_iff_lt,ne_eq,not_true_eq_false,not_false_eq_true,hal,h2,h3,h4,h5,g0,g1,hlt,hs,hi1c,c2,e1,e2,str_eq,Wnt.seg,Bool.not_true,wrap_ok,false_and,false_or,or_false,true_and,↓WX,simprocAttr]
  clear hal h2 h3 h4 h5 a
  rintro a W ⟨⟨rfl,rfl⟩,hal,h2,h3,h4,h5⟩
  simp only[Bool.false_eq_true,if_false]
  simp(maxSteps:=1000000)(disch:=omega)only[push_cast,decide_not,decide_eq_true_eq,decide_eq_false_iff_not,bne_eq_false_iff_eq,beq_eq_false_iff_ne,gt_iff_lt,ne_eq,not_true_eq_false,not_false_eq_true,hal,h2,h3,h4,h5,Tryz.f199,↓WX,simprocAttr]
 obtain⟨_,T,ho,rfl⟩:=this
 exact fun st S=>callD_pure rfl hp ho rfl
end
end Go.Proofs.YtaklebjoenophaaGreat.Dm
