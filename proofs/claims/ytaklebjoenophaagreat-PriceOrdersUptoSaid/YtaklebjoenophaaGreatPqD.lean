/-
  How often a tax is due, and the taxes of a journey: the reference, exactly (but for the percentage, which is a function).
-/
import Derived.Test.YtaklebjoenophaaGreatPqC
set_option linter.unusedSimpArgs false
set_option linter.unusedVariables false
namespace Go.Proofs.YtaklebjoenophaaGreat.Dm
open Go Gw
set_option linter.unusedSimpArgs false
set_option linter.unusedSimpArgs false
def axF (pct:Int→Int→Int×Int) (k:Nat) (x:Tx) (fare:Int):Int×Int:=if x.kind=4∧k=1 then pct fare x.amount else (IntKind.i64.wrap (k*x.amount),0)
def taxF (pct:Int→Int→Int×Int) (p:Plc) (w:List Wnt) (s:ByteArray) (fare:Int):List Tx→List (ByteArray×Int)→List (ByteArray×Int)×Int
 | [],acc=>(acc,0)
 |x::xs,acc=>
  if (axF pct (timF p x w s) x fare).2=0 then
   if 1099511627776<(axF pct (timF p x w s) x fare).1 then ([],11)
   else if (axF pct (timF p x w s) x fare).1=0 then taxF pct p w s fare xs acc
   else taxF pct p w s fare xs (acc++[(x.code,(axF pct (timF p x w s) x fare).1)])
  else ([],(axF pct (timF p x w s) x fare).2)
section
variable {n : Nat}
set_option maxHeartbeats 16000000 in
set_option maxRecDepth 100000 in
theorem Times27_x (p:Plc) (hpa:p.aps.length≤1048576) (x:Tx) (hxf:x.free.length≤1048576) (l:List Wnt) (lx:Bool) (hl:l.length≤1048576) (s:ByteArray) (hn:1048800≤n):∀st S,callD E (dcall E n) st S 147 [.agg p.enc,.agg x.enc,.sl 7 (l.map Wnt.seg) lx,.str s]=some (.int .i64 (timF p x l s),S):=by
 obtain⟨m,rfl⟩:∃m,n=m+1:=⟨n-1,by omega⟩
 have hp:pureL [.agg p.enc,.agg x.enc,.sl 7 (l.map Wnt.seg) lx,.str s]=true:=by simp only[pureL_cons,pureL_nil,D.pure,Plc_pure,Tx_pure,Segs_pure,Bool.and_true]
 have cdu:=fun (i:Nat) (u:Wnt) (hu:l[i]? =some u)=>due27_x (n:=m) p hpa x l lx hl hu (by omega)
 have hsl:=sumD_le p x none l
 unfold timF
 obtain⟨q,hq⟩:∃q,q=x.free.any fun y=>decide (y=s):=⟨_,rfl⟩
 rw[←hq]
 obtain⟨N,hN⟩:∃N,N=sumD p x none l:=⟨_,rfl⟩
 rw[←hN]at hsl ⊢
 simp only[Plc.enc,Tx.enc]at hp cdu ⊢
 have:WO (dcall E (m+1) 147 [.agg [.sl 5 (p.aps.map Apt.enc) p.apsx,.sl 3 (p.dts.map Dst.enc) p.dtsx],.agg [.str x.code,.int .i64 x.kind,.str x.land,.int .i64 x.amount,.int .i64 x.scope,.int .i64 x.transit,.sl 1 (x.free.map Cnd.encT) x.freex],.sl 7 (l.map Wnt.seg) lx,.str s] []) fun r T=>r=.int .i64 ((if q=true then 0 else if x.kind<1∨4<x.kind then 0 else if x.kind=4 then min N 1 else N:Nat):Int):=by
  obtain⟨P0,hP0⟩:∃P0:List Ob,P0=[Ob.row 2 [[.sl 5 (p.aps.map Apt.enc) p.apsx,.sl 3 (p.dts.map Dst.enc) p.dtsx]],Ob.row 7 [[.str x.code,.int .i64 x.kind,.str x.land,.int .i64 x.amount,.int .i64 x.scope,.int .i64 x.transit,.sl 1 (x.free.map Cnd.encT) x.freex]]]:=⟨_,rfl⟩
  have g0:P0[0]? =some (Ob.row 2 [[.sl 5 (p.aps.map Apt.enc) p.apsx,.sl 3 (p.dts.map Dst.enc) p.dtsx]]):=by rw[hP0];rfl
  have g1:P0[1]? =some (Ob.row 7 [[.str x.code,.int .i64 x.kind,.str x.land,.int .i64 x.amount,.int .i64 x.scope,.int .i64 x.transit,.sl 1 (x.free.map Cnd.encT) x.freex]]):=by rw[hP0];rfl
  refine wo_dcall Tryz.func147 rfl (by decide) rfl 53 rfl (fun a hal ha=>?_)
  have h0:a[0]? =some (.agg [.sl 5 (p.aps.map Apt.enc) p.apsx,.sl 3 (p.dts.map Dst.enc) p.dtsx]):=ha 0 (by simp)
  have h1:a[1]? =some (.agg [.str x.code,.int .i64 x.kind,.str x.land,.int .i64 x.amount,.int .i64 x.scope,.int .i64 x.transit,.sl 1 (x.free.map Cnd.encT) x.freex]):=ha 1 (by simp)
  have h2:a[2]? =some (.sl 7 (l.map Wnt.seg) lx):=ha 2 (by simp)
  have h3:a[3]? =some (.str s):=ha 3 (by simp)
  clear ha
  refine wc_scut (fun a V=>V=P0∧a.length=53∧a[2]? =some (.sl 7 (l.map Wnt.seg) lx)∧a[3]? =some (.str s)∧a[4]? =some (.loc 0 0 0)∧a[5]? =some (.loc 1 0 0)) ?_ ?_
  ·simp(maxSteps:=1000000)(disch:=omega)only[push_cast,decide_not,decide_eq_true_eq,decide_eq_false_iff_not,bne_eq_false_iff_eq,beq_eq_false_iff_ne,gt_iff_lt,ne_eq,not_true_eq_false,not_false_eq_true,hal,h0,h1,h2,h3,↓WX,simprocAttr]
   rw[hP0]
  clear hal h0 h1 h2 h3 a
  rintro a V ⟨rfl,hal,h2,h3,h4,h5⟩
  clear hP0
  refine wc_rcut (fun a W=>(W=V∧q=false)∧a.length=53∧a[2]? =some (.sl 7 (l.map Wnt.seg) lx)∧a[4]? =some (.loc 0 0 0)∧a[5]? =some (.loc 1 0 0)) ?_ ?_
  ·simp(maxSteps:=1000000)(disch:=omega)only[push_cast,decide_not,decide_eq_true_eq,decide_eq_false_iff_not,bne_eq_false_iff_eq,beq_eq_false_iff_ne,gt_iff_lt,ne_eq,not_true_eq_false,not_false_eq_true,hal,h2,h3,h4,h5,↓WX,simprocAttr]
   refine wl_loop (fun i a T=>(T=V∧q=(x.free.drop i).any fun y=>decide (y=s))∧a.length=53∧a[2]? =some (.sl 7 (l.map Wnt.seg) lx)∧a[3]? =some (.str s)∧a[4]? =some (.loc 0 0 0)∧a[5]? =some (.loc 1 0 0)∧a[9]? =some (.int .i64 i)) x.free.length ?_ (by omega) ?_
   ·simp(maxSteps:=1000000)(disch:=omega)only[push_cast,decide_not,decide_eq_true_eq,decide_eq_false_iff_not,bne_eq_false_iff_eq,beq_eq_false_iff_ne,gt_iff_lt,ne_eq,not_true_eq_false,not_false_eq_true,hal,h2,h3,h4,h5,Int.natCast_zero,↓WX,simprocAttr]
    exact hq
   clear hal h2 h3 h4 h5 a
   clear hq
   rintro i a T hi ⟨⟨rfl,e⟩,hal,h2,h3,h4,h5,h9⟩
   rcases Nat.lt_or_eq_of_le hi with hlt |hie
   case inr=>
    rw[hie,List.drop_length,List.any_nil]at e
    subst hie
    simp(maxSteps:=1000000)(disch:=omega)only[push_cast,decide_not,decide_eq_true_eq,decide_eq_false_iff_not,bne_eq_false_iff_eq,beq_eq_false_iff_ne,gt_iff_lt,ne_eq,not_true_eq_false,not_false_eq_true,hal,h2,h3,h4,h5,h9,g1,Int.lt_irrefl,false_and,false_or,or_false,true_and,↓WX,simprocAttr]
    exact e
   have hltc:(i:Int)<x.free.length:=by omega
   obtain⟨y,hy⟩:∃y,x.free[i]? =some y:=⟨x.free[i],by simp⟩
   rw[drop_at hy,List.any_cons]at e
   cases e1:decide (y=s)
   ·rw[e1,Bool.false_or]at e
    simp(maxSteps:=1000000)(disch:=omega)only[push_cast,decide_not,decide_eq_true_eq,decide_eq_false_iff_not,bne_eq_false_iff_eq,beq_eq_false_iff_ne,gt_iff_lt,ne_eq,not_true_eq_false,not_false_eq_true,hal,h2,h3,h4,h5,h9,g1,hltc,hlt,hy,e1,str_eq,Cnd.encT,wrap_ok,Int.natCast_add,Int.natCast_one,↓WX,simprocAttr]
    exact e
   ·rw[e1,Bool.true_or]at e
    subst e
    simp only[if_true]
    simp(maxSteps:=1000000)(disch:=omega)only[push_cast,decide_not,decide_eq_true_eq,decide_eq_false_iff_not,bne_eq_false_iff_eq,beq_eq_false_iff_ne,gt_iff_lt,ne_eq,not_true_eq_false,not_false_eq_true,hal,h2,h3,h4,h5,h9,g1,hltc,hlt,hy,e1,str_eq,Cnd.encT,false_and,false_or,or_false,true_and,Tryz.f147,↓WX,simprocAttr]
  clear hal h2 h3 h4 h5 a
  rintro a W ⟨⟨rfl,rfl⟩,hal,h2,h4,h5⟩
  simp only[Bool.false_eq_true,if_false]
  by_cases k1:x.kind<1
  ·rw[if_pos (.inl k1)]
   simp(maxSteps:=1000000)(disch:=omega)only[push_cast,decide_not,decide_eq_true_eq,decide_eq_false_iff_not,bne_eq_false_iff_eq,beq_eq_false_iff_ne,gt_iff_lt,ne_eq,not_true_eq_false,not_false_eq_true,hal,h2,h4,h5,g1,k1,Tryz.f147,↓WX,simprocAttr]
  by_cases k2:4<x.kind
  ·rw[if_pos (.inr k2)]
   simp(maxSteps:=1000000)(disch:=omega)only[push_cast,decide_not,decide_eq_true_eq,decide_eq_false_iff_not,bne_eq_false_iff_eq,beq_eq_false_iff_ne,gt_iff_lt,ne_eq,not_true_eq_false,not_false_eq_true,hal,h2,h4,h5,g1,k1,k2,Tryz.f147,↓WX,simprocAttr]
  rw[if_neg (fun h=>h.elim k1 k2)]
  refine wc_scut (fun a V=>V=W∧a.length=53∧a[2]? =some (.sl 7 (l.map Wnt.seg) lx)∧a[4]? =some (.loc 0 0 0)∧a[5]? =some (.loc 1 0 0)) ?_ ?_
  ·simp(maxSteps:=1000000)(disch:=omega)only[push_cast,decide_not,decide_eq_true_eq,decide_eq_false_iff_not,bne_eq_false_iff_eq,beq_eq_false_iff_ne,gt_iff_lt,ne_eq,not_true_eq_false,not_false_eq_true,hal,h2,h4,h5,g1,k1,k2,↓WX,simprocAttr]
  clear hal h2 h4 h5 a
  rintro a V ⟨rfl,hal,h2,h4,h5⟩
  refine wc_scut (fun a W=>W=V∧a.length=53∧a[2]? =some (.sl 7 (l.map Wnt.seg) lx)∧a[4]? =some (.loc 0 0 0)∧a[5]? =some (.loc 1 0 0)∧a[10]? =some (.int .i64 0)) ?_ ?_
  ·simp(maxSteps:=1000000)(disch:=omega)only[push_cast,decide_not,decide_eq_true_eq,decide_eq_false_iff_not,bne_eq_false_iff_eq,beq_eq_false_iff_ne,gt_iff_lt,ne_eq,not_true_eq_false,not_false_eq_true,hal,h2,h4,h5,↓WX,simprocAttr]
  clear hal h2 h4 h5 a
  rintro a W ⟨rfl,hal,h2,h4,h5,h10⟩
  refine wc_scut (fun a V=>V=W∧a.length=53∧a[5]? =some (.loc 1 0 0)∧a[10]? =some (.int .i64 N)) ?_ ?_
  ·simp(maxSteps:=1000000)(disch:=omega)only[push_cast,decide_not,decide_eq_true_eq,decide_eq_false_iff_not,bne_eq_false_iff_eq,beq_eq_false_iff_ne,gt_iff_lt,ne_eq,not_true_eq_false,not_false_eq_true,hal,h2,h4,h5,h10,↓WX,simprocAttr]
   refine wl_loop (fun i a T=>(T=W∧∃k:Nat,a[10]? =some (.int .i64 k)∧k≤i∧N=k+sumD p x (if i=0 then none else l[i-1]?) (l.drop i))∧a.length=53∧a[2]? =some (.sl 7 (l.map Wnt.seg) lx)∧a[4]? =some (.loc 0 0 0)∧a[5]? =some (.loc 1 0 0)∧a[11]? =some (.int .i64 i)) l.length ?_ (by omega) ?_
   ·simp(maxSteps:=1000000)(disch:=omega)only[push_cast,decide_not,decide_eq_true_eq,decide_eq_false_iff_not,bne_eq_false_iff_eq,beq_eq_false_iff_ne,gt_iff_lt,ne_eq,not_true_eq_false,not_false_eq_true,hal,h2,h4,h5,h10,Int.natCast_zero,↓WX,simprocAttr]
    exact⟨0,rfl,Nat.le_refl _,by rw[Nat.zero_add];exact hN⟩
   clear hal h2 h4 h5 h10 a
   clear hN
   rintro i a T hi ⟨⟨rfl,k,h10,hki,e⟩,hal,h2,h4,h5,h11⟩
   rcases Nat.lt_or_eq_of_le hi with hlt |rfl
   case inr=>
    rw[List.drop_length,sumD,Nat.add_zero]at e
    subst e
    simp(maxSteps:=1000000)(disch:=omega)only[push_cast,decide_not,decide_eq_true_eq,decide_eq_false_iff_not,bne_eq_false_iff_eq,beq_eq_false_iff_ne,gt_iff_lt,ne_eq,not_true_eq_false,not_false_eq_true,hal,h2,h4,h5,h10,h11,Int.lt_irrefl,↓WX,simprocAttr]
   have hltc:(i:Int)<l.length:=by omega
   obtain⟨u,hu⟩:∃u,l[i]? =some u:=⟨l[i],by simp⟩
   have cdu:=cdu i u hu
   have hdl:=dueF_le p x (if i=0 then none else l[i-1]?) u l[i+1]?
   rw[drop_at hu,sumD]at e
   have hhd:(l.drop (i+1)).head? =l[i+1]? :=by rw[List.head?_drop]
   rw[hhd]at e
   generalize dueF p x (if i=0 then none else l[i-1]?) u l[i+1]? =dd at*
   simp(maxSteps:=1000000)(disch:=omega)only[push_cast,decide_not,decide_eq_true_eq,decide_eq_false_iff_not,bne_eq_false_iff_eq,beq_eq_false_iff_ne,gt_iff_lt,ne_eq,not_true_eq_false,not_false_eq_true,hal,h2,h4,h5,h10,h11,g0,g1,hlt,hltc,cdu,wrap_ok,Int.natCast_add,Int.natCast_one,↓WX,simprocAttr]
   exact⟨k+dd,by push_cast<;>rfl,by omega,by first|(rw[show i+1-1=i by omega,hu,Nat.add_assoc];exact e)|(rw[hu,Nat.add_assoc];exact e)|(rw[show i+1-1=i by omega];omega)|omega⟩
  clear hal h2 h4 h5 h10 a
  rintro a V ⟨rfl,hal,h5,h10⟩
  by_cases k4:x.kind=4
  ·rw[if_pos k4]
   have hmin:((min N 1:Nat):Int)=min (N:Int) 1:=by omega
   rw[hmin]
   simp(maxSteps:=1000000)(disch:=omega)only[push_cast,decide_not,decide_eq_true_eq,decide_eq_false_iff_not,bne_eq_false_iff_eq,beq_eq_false_iff_ne,gt_iff_lt,ne_eq,not_true_eq_false,not_false_eq_true,hal,h5,h10,g1,k4,decide_true,Tryz.f147,↓WX,simprocAttr]
   split <;> omega
  ·rw[if_neg k4]
   simp(maxSteps:=1000000)(disch:=omega)only[push_cast,decide_not,decide_eq_true_eq,decide_eq_false_iff_not,bne_eq_false_iff_eq,beq_eq_false_iff_ne,gt_iff_lt,ne_eq,not_true_eq_false,not_false_eq_true,hal,h5,h10,g1,k4,decide_false,Tryz.f147,↓WX,simprocAttr]
 obtain⟨_,T,ho,rfl⟩:=this
 exact fun st S=>callD_pure rfl hp ho rfl
set_option maxHeartbeats 16000000 in
set_option maxRecDepth 100000 in
theorem Of27_d (pct:Int→Int→Int×Int) (hpc:∀x y st S,callD E (dcall E n) st S 143 [.int .i64 x,.int .i64 y]=some (.tup [.int .i64 (pct x y).1,.int .i64 (pct x y).2],S)) (p:Plc) (hpa:p.aps.length≤1048576) (l:List Tx) (lx:Bool) (hl:l.length≤90000) (hlf:∀x∈l,x.free.length≤1048576) (w:List Wnt) (wx:Bool) (hw:w.length≤1048576) (s:ByteArray) (fare:Int) (hn:1048800≤n):
  WO (dcall E (n+1) 93 [.agg p.enc,.sl 7 (l.map Tx.enc) lx,.sl 7 (w.map Wnt.seg) wx,.str s,.int .i64 fare] []) fun r T=>∃d,r=.tup [d,.int .i64 (taxF pct p w s fare l []).2]∧GL 2 encCh T d (taxF pct p w s fare l []).1:=by
 have cti:=fun x hx=>Times27_x (n:=n) p hpa x (hlf x hx) w wx hw s (by omega)
 have ap:∀ {T:List Ob} {d:D} {cs:List (ByteArray×Int)},GL 2 encCh T d cs→cs.length≤100000→∀c:ByteArray×Int,∃S',dAppend Tryz.prog T 39 39 d (.sl 2 [[.str c.1,.int .i64 c.2]] true)=some (.os T.length 0 (cs.length+1) false,S')∧GL 2 encCh S' (.os T.length 0 (cs.length+1) false) (cs++[c])∧S'.length=T.length+1∧(∀k o,(∀n,d=.os k 0 n false→False)→T[k]? =some o→S'[k]? =some o):=fun h hc c=>by
  obtain⟨S',a1,a2,a3,a4,-⟩:=app_gl (t:=39) (e:=93) (z:=.agg [.str (ByteArray.mk #[]),.int .i64 0]) (n:=1) (by kernel_rfl) (by kernel_rfl) (by kernel_rfl) rfl (Nat.le_of_ble_eq_true (by kernel_rfl)) h hc c
  exact⟨S',a1,a2,a3,a4⟩
 obtain⟨q,hq⟩:∃q,q=taxF pct p w s fare l []:=⟨_,rfl⟩
 rw[←hq]
 simp only[Plc.enc]at cti ⊢
 obtain⟨R0,hR0⟩:∃R0,R0=Ob.row 2 [[.sl 5 (p.aps.map Apt.enc) p.apsx,.sl 3 (p.dts.map Dst.enc) p.dtsx]]:=⟨_,rfl⟩
 refine wo_dcall Tryz.func93 rfl (by decide) rfl 76 rfl (fun a hal ha=>?_)
 have h0:a[0]? =some (.agg [.sl 5 (p.aps.map Apt.enc) p.apsx,.sl 3 (p.dts.map Dst.enc) p.dtsx]):=ha 0 (by simp)
 have h1:a[1]? =some (.sl 7 (l.map Tx.enc) lx):=ha 1 (by simp)
 have h2:a[2]? =some (.sl 7 (w.map Wnt.seg) wx):=ha 2 (by simp)
 have h3:a[3]? =some (.str s):=ha 3 (by simp)
 have h4:a[4]? =some (.int .i64 fare):=ha 4 (by simp)
 clear ha
 refine wc_scut (fun a V=>V=[R0]∧a.length=76∧a[1]? =some (.sl 7 (l.map Tx.enc) lx)∧a[2]? =some (.sl 7 (w.map Wnt.seg) wx)∧a[3]? =some (.str s)∧a[4]? =some (.int .i64 fare)∧a[5]? =some (.loc 0 0 0)∧a[10]? =some (.nils)∧a[11]? =some (.int .i64 0)) ?_ ?_
 ·simp(maxSteps:=1000000)(disch:=omega)only[push_cast,decide_not,decide_eq_true_eq,decide_eq_false_iff_not,bne_eq_false_iff_eq,beq_eq_false_iff_ne,gt_iff_lt,ne_eq,not_true_eq_false,not_false_eq_true,hal,h0,h1,h2,h3,h4,↓WX,simprocAttr]
  rw[hR0]
 clear hal h0 h1 h2 h3 h4 a
 rintro a V ⟨rfl,hal,h1,h2,h3,h4,h5,h10,h11⟩
 refine wc_scut (fun a V=>V=[R0]∧a.length=76∧a[1]? =some (.sl 7 (l.map Tx.enc) lx)∧a[2]? =some (.sl 7 (w.map Wnt.seg) wx)∧a[3]? =some (.str s)∧a[4]? =some (.int .i64 fare)∧a[5]? =some (.loc 0 0 0)∧a[12]? =some (.nils)) ?_ ?_
 ·simp(maxSteps:=1000000)(disch:=omega)only[push_cast,decide_not,decide_eq_true_eq,decide_eq_false_iff_not,bne_eq_false_iff_eq,beq_eq_false_iff_ne,gt_iff_lt,ne_eq,not_true_eq_false,not_false_eq_true,hal,h1,h2,h3,h4,h5,h10,h11,↓WX,simprocAttr]
 clear hal h1 h2 h3 h4 h5 h10 h11 a
 rintro a V ⟨hV,hal,h1,h2,h3,h4,h5,h12⟩
 refine wc_rcut (fun a T=>(∃d cs,a[12]? =some d∧GL 2 encCh T d cs∧q=(cs,0))∧a.length=76∧a[5]? =some (.loc 0 0 0)) ?_ ?_
 ·simp(maxSteps:=1000000)(disch:=omega)only[push_cast,decide_not,decide_eq_true_eq,decide_eq_false_iff_not,bne_eq_false_iff_eq,beq_eq_false_iff_ne,gt_iff_lt,ne_eq,not_true_eq_false,not_false_eq_true,hal,h1,h2,h3,h4,h5,h12,↓WX,simprocAttr]
  refine wl_loop (fun i a T=>(∃d cs,a[12]? =some d∧GL 2 encCh T d cs∧(∀n,d=.os 0 0 n false→False)∧T[0]? =some R0∧1≤T.length∧cs.length≤i∧q=taxF pct p w s fare (l.drop i) cs)∧a.length=76∧a[1]? =some (.sl 7 (l.map Tx.enc) lx)∧a[2]? =some (.sl 7 (w.map Wnt.seg) wx)∧a[3]? =some (.str s)∧a[4]? =some (.int .i64 fare)∧a[5]? =some (.loc 0 0 0)∧a[13]? =some (.int .i64 i)) l.length ?_ (by omega) ?_
  ·simp(maxSteps:=1000000)(disch:=omega)only[push_cast,decide_not,decide_eq_true_eq,decide_eq_false_iff_not,bne_eq_false_iff_eq,beq_eq_false_iff_ne,gt_iff_lt,ne_eq,not_true_eq_false,not_false_eq_true,hal,h1,h2,h3,h4,h5,h12,Int.natCast_zero,↓WX,simprocAttr]
   subst hV
   exact⟨_,[],rfl,GL.nil,(fun n h=>by cases h),rfl,Nat.le_refl _,Nat.le_refl _,hq⟩
  clear hal h1 h2 h3 h4 h5 h12 a
  clear hV hq
  rintro i a T hi ⟨⟨d,cs,h12,hg,hd,g0,hTl,hcl,e⟩,hal,h1,h2,h3,h4,h5,h13⟩
  rw[hR0]at g0
  rcases Nat.lt_or_eq_of_le hi with hlt |rfl
  case inr=>
   rw[List.drop_length,taxF]at e
   simp(maxSteps:=1000000)(disch:=omega)only[push_cast,decide_not,decide_eq_true_eq,decide_eq_false_iff_not,bne_eq_false_iff_eq,beq_eq_false_iff_ne,gt_iff_lt,ne_eq,not_true_eq_false,not_false_eq_true,hal,h1,h2,h3,h4,h5,h12,h13,Int.lt_irrefl,false_and,false_or,or_false,true_and,↓WX,simprocAttr]
   exact⟨_,_,rfl,hg,e⟩
  have hltc:(i:Int)<l.length:=by omega
  obtain⟨x,hx⟩:∃x,l[i]? =some x:=⟨l[i],by simp⟩
  have ct:=cti x (List.mem_of_getElem? hx)
  rw[drop_at hx,taxF]at e
  obtain⟨S',a1,a2,a3,a4⟩:=ap hg (by omega) (x.code,(axF pct (timF p x w s) x fare).1)
  have g0':=a4 _ _ hd g0
  unfold axF at e a1 a2
  generalize timF p x w s=k at*
  simp only[Tx.enc]at ct
  have hcp:=hpc fare x.amount
  obtain⟨am,hfa⟩:∃am,am=(if x.kind=4∧k=1 then pct fare x.amount else (IntKind.i64.wrap (k*x.amount),0)):=⟨_,rfl⟩
  rw[←hfa]at e a1 a2
  refine wc_scut (fun a V=>V=T∧a.length=76∧a[1]? =some (.sl 7 (l.map Tx.enc) lx)∧a[2]? =some (.sl 7 (w.map Wnt.seg) wx)∧a[3]? =some (.str s)∧a[4]? =some (.int .i64 fare)∧a[5]? =some (.loc 0 0 0)∧a[12]? =some (d)∧a[13]? =some (.int .i64 i)) ?_ ?_
  ·simp(maxSteps:=1000000)(disch:=omega)only[push_cast,decide_not,decide_eq_true_eq,decide_eq_false_iff_not,bne_eq_false_iff_eq,beq_eq_false_iff_ne,gt_iff_lt,ne_eq,not_true_eq_false,not_false_eq_true,hal,h1,h2,h3,h4,h5,h12,h13,hltc,↓WX,simprocAttr]
  clear hal h1 h2 h3 h4 h5 h12 h13 a
  rintro a V ⟨rfl,hal,h1,h2,h3,h4,h5,h12,h13⟩
  rw[wc_seq,wc_block]
  refine wc_scut (fun a W=>W=V∧a.length=76∧a[1]? =some (.sl 7 (l.map Tx.enc) lx)∧a[2]? =some (.sl 7 (w.map Wnt.seg) wx)∧a[3]? =some (.str s)∧a[4]? =some (.int .i64 fare)∧a[5]? =some (.loc 0 0 0)∧a[12]? =some (d)∧a[13]? =some (.int .i64 i)∧a[14]? =some (.int .i64 k)) ?_ ?_
  ·simp(maxSteps:=1000000)(disch:=omega)only[push_cast,decide_not,decide_eq_true_eq,decide_eq_false_iff_not,bne_eq_false_iff_eq,beq_eq_false_iff_ne,gt_iff_lt,ne_eq,not_true_eq_false,not_false_eq_true,hal,h1,h2,h3,h4,h5,h12,h13,g0,hlt,hltc,hx,ct,Tx.enc,↓WX,simprocAttr]
  clear hal h1 h2 h3 h4 h5 h12 h13 a
  rintro a W ⟨rfl,hal,h1,h2,h3,h4,h5,h12,h13,h14⟩
  refine wc_scut (fun a V=>V=W∧a.length=76∧a[1]? =some (.sl 7 (l.map Tx.enc) lx)∧a[2]? =some (.sl 7 (w.map Wnt.seg) wx)∧a[3]? =some (.str s)∧a[4]? =some (.int .i64 fare)∧a[5]? =some (.loc 0 0 0)∧a[12]? =some (d)∧a[13]? =some (.int .i64 i)∧a[14]? =some (.int .i64 k)∧a[15]? =some (.int .i64 (IntKind.i64.wrap (k*x.amount)))∧a[16]? =some (.int .i64 0)) ?_ ?_
  ·simp(maxSteps:=1000000)(disch:=omega)only[push_cast,decide_not,decide_eq_true_eq,decide_eq_false_iff_not,bne_eq_false_iff_eq,beq_eq_false_iff_ne,gt_iff_lt,ne_eq,not_true_eq_false,not_false_eq_true,hal,h1,h2,h3,h4,h5,h12,h13,h14,hlt,hltc,hx,Tx.enc,↓WX,simprocAttr]
  clear hal h1 h2 h3 h4 h5 h12 h13 h14 a
  rintro a V ⟨rfl,hal,h1,h2,h3,h4,h5,h12,h13,h14,h15,h16⟩
  refine wc_scut (fun a W=>W=V∧a.length=76∧a[1]? =some (.sl 7 (l.map Tx.enc) lx)∧a[2]? =some (.sl 7 (w.map Wnt.seg) wx)∧a[3]? =some (.str s)∧a[4]? =some (.int .i64 fare)∧a[5]? =some (.loc 0 0 0)∧a[12]? =some (d)∧a[13]? =some (.int .i64 i)∧a[15]? =some (.int .i64 am.1)∧a[16]? =some (.int .i64 am.2)) ?_ ?_
  ·by_cases k4:x.kind=4
   ·by_cases k1:k=1
    ·rw[if_pos ⟨k4,k1⟩]at hfa
     have k1':(k:Int)=1:=by omega
     subst hfa
     simp(maxSteps:=1000000)(disch:=omega)only[push_cast,decide_not,decide_eq_true_eq,decide_eq_false_iff_not,bne_eq_false_iff_eq,beq_eq_false_iff_ne,gt_iff_lt,ne_eq,not_true_eq_false,not_false_eq_true,hal,h1,h2,h3,h4,h5,h12,h13,h14,h15,h16,hlt,hltc,hx,k4,k1',hcp,Tx.enc,decide_true,↓WX,simprocAttr]
    ·rw[if_neg (fun h=>k1 h.2)]at hfa
     have k1':decide ((k:Int)=1)=false:=decide_eq_false (by omega)
     subst hfa
     simp(maxSteps:=1000000)(disch:=omega)only[push_cast,decide_not,decide_eq_true_eq,decide_eq_false_iff_not,bne_eq_false_iff_eq,beq_eq_false_iff_ne,gt_iff_lt,ne_eq,not_true_eq_false,not_false_eq_true,hal,h1,h2,h3,h4,h5,h12,h13,h14,h15,h16,hlt,hltc,hx,k4,k1',Tx.enc,decide_true,↓WX,simprocAttr]
   ·rw[if_neg (fun h=>k4 h.1)]at hfa
    subst hfa
    simp(maxSteps:=1000000)(disch:=omega)only[push_cast,decide_not,decide_eq_true_eq,decide_eq_false_iff_not,bne_eq_false_iff_eq,beq_eq_false_iff_ne,gt_iff_lt,ne_eq,not_true_eq_false,not_false_eq_true,hal,h1,h2,h3,h4,h5,h12,h13,h14,h15,h16,hlt,hltc,hx,k4,Tx.enc,decide_false,↓WX,simprocAttr]
  clear hal h1 h2 h3 h4 h5 h12 h13 h14 h15 h16 a
  clear hfa hcp
  rintro a W ⟨rfl,hal,h1,h2,h3,h4,h5,h12,h13,h15,h16⟩
  obtain⟨am,ae⟩:=am
  dsimp only at*
  by_cases c1:ae=0
  case neg=>
   rw[if_neg c1]at e
   subst e
   simp(maxSteps:=1000000)(disch:=omega)only[push_cast,decide_not,decide_eq_true_eq,decide_eq_false_iff_not,bne_eq_false_iff_eq,beq_eq_false_iff_ne,gt_iff_lt,ne_eq,not_true_eq_false,not_false_eq_true,hal,h1,h2,h3,h4,h5,h12,h13,h15,h16,c1,decide_false,Bool.not_false,false_and,false_or,or_false,true_and,Tryz.f93,↓WX,simprocAttr]
   exact⟨_,rfl,GL.nil⟩
  rw[if_pos c1]at e
  subst c1
  by_cases c2:1099511627776<am
  ·rw[if_pos c2]at e
   subst e
   simp(maxSteps:=1000000)(disch:=omega)only[push_cast,decide_not,decide_eq_true_eq,decide_eq_false_iff_not,bne_eq_false_iff_eq,beq_eq_false_iff_ne,gt_iff_lt,ne_eq,not_true_eq_false,not_false_eq_true,hal,h1,h2,h3,h4,h5,h12,h13,h15,h16,c2,decide_true,Bool.not_true,false_and,false_or,or_false,true_and,Tryz.f93,↓WX,simprocAttr]
   exact⟨_,rfl,GL.nil⟩
  rw[if_neg c2]at e
  by_cases c3:am=0
  ·rw[if_pos c3]at e
   simp(maxSteps:=1000000)(disch:=omega)only[push_cast,decide_not,decide_eq_true_eq,decide_eq_false_iff_not,bne_eq_false_iff_eq,beq_eq_false_iff_ne,gt_iff_lt,ne_eq,not_true_eq_false,not_false_eq_true,hal,h1,h2,h3,h4,h5,h12,h13,h15,h16,c2,c3,hlt,decide_true,decide_false,Bool.not_true,wrap_ok,Int.natCast_add,Int.natCast_one,↓WX,simprocAttr]
   exact⟨_,_,rfl,hg,hd,by rw[hR0];exact g0,hTl,by omega,e⟩
  ·rw[if_neg c3]at e
   simp(maxSteps:=1000000)(disch:=omega)only[push_cast,decide_not,decide_eq_true_eq,decide_eq_false_iff_not,bne_eq_false_iff_eq,beq_eq_false_iff_ne,gt_iff_lt,ne_eq,not_true_eq_false,not_false_eq_true,hal,h1,h2,h3,h4,h5,h12,h13,h15,h16,c2,c3,hlt,hltc,hx,a1,Tx.enc,decide_true,decide_false,Bool.not_true,Bool.not_false,wrap_ok,Int.natCast_add,Int.natCast_one,↓WX,simprocAttr]
   exact⟨_,_,rfl,a2,fun n h=>by have:=(D.os.inj h).1;omega,by rw[hR0];exact g0',by omega,by rw[List.length_append,List.length_singleton];omega,e⟩
 clear hal h1 h2 h3 h4 h5 h12 a
 clear hV
 rintro a T ⟨⟨d,cs,h12,hg,rfl⟩,hal,h5⟩
 simp(maxSteps:=1000000)(disch:=omega)only[push_cast,decide_not,decide_eq_true_eq,decide_eq_false_iff_not,bne_eq_false_iff_eq,beq_eq_false_iff_ne,gt_iff_lt,ne_eq,not_true_eq_false,not_false_eq_true,hal,h5,h12,Tryz.f93,↓WX,simprocAttr]
 exact⟨_,rfl,hg⟩
theorem Of27_x (pct:Int→Int→Int×Int) (hpc:∀x y st S,callD E (dcall E n) st S 143 [.int .i64 x,.int .i64 y]=some (.tup [.int .i64 (pct x y).1,.int .i64 (pct x y).2],S)) (p:Plc) (hpa:p.aps.length≤1048576) (l:List Tx) (lx:Bool) (hl:l.length≤90000) (hlf:∀x∈l,x.free.length≤1048576) (w:List Wnt) (wx:Bool) (hw:w.length≤1048576) (s:ByteArray) (fare:Int) (hn:1048800≤n):
  ∃d,FLs 2 encCh d (taxF pct p w s fare l []).1∧∀st S,callD E (dcall E (n+1)) st S 93 [.agg p.enc,.sl 7 (l.map Tx.enc) lx,.sl 7 (w.map Wnt.seg) wx,.str s,.int .i64 fare]=some (.tup [d,.int .i64 (taxF pct p w s fare l []).2],S):=by
 obtain⟨_,T,ho,d,rfl,hg⟩:=Of27_d pct hpc p hpa l lx hl hlf w wx hw s fare hn
 obtain⟨d',hf,hd⟩:=hg.flsN (encChs_pure _) 37
 exact⟨d',hd,fun st S=>callD_pure rfl (by simp only[pureL_cons,pureL_nil,D.pure,Plc_pure,Txs_pure,Segs_pure,Bool.and_true]) ho (freeze_tup2 hf)⟩
end
end Go.Proofs.YtaklebjoenophaaGreat.Dm
