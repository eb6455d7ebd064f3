/-
  Whether the components of a journey can be combined as a whole: the reference, exactly.
-/
import Derived.Test.YtaklebjoenophaaGreatPqA
set_option linter.unusedSimpArgs false
set_option linter.unusedVariables false
namespace Go.Proofs.YtaklebjoenophaaGreat.Dm
open Go Gw
set_option linter.unusedSimpArgs false
set_option linter.unusedSimpArgs false
section
variable {n : Nat}
theorem Mixed26_x {S:List Ob} (t:Trf) {d:D} {l:List Prt} (h:LQ 4 Prt.enc S d l) (hl:l.length≤900) (hr:t.rules.length≤1048576) (hcb:∀r∈t.rules,r.comb.length≤1048576) (hn:1048701≤n):∀st,callD E (dcall E n) st S 91 [.agg t.enc,d]=some (.int .i64 (mixedF t l),S):=by
 obtain⟨m,rfl⟩:∃m,n=m+1:=⟨n-1,by omega⟩
 refine obs_g rfl rfl fun S' hS=>?_
 rcases hS with hp |rfl
 ·simp only[pureL_cons,pureL_nil,D.pure,Bool.and_true,Bool.and_eq_true]at hp
  exact Mixed26_d t (h.pure0 hp.2).lq hl hr hcb (by omega)
 ·exact Mixed26_d t h hl hr hcb (by omega)
theorem Stays26_x {S:List Ob} (p:Plc) (hpa:p.aps.length≤1048576) (hsh:∀a∈p.aps,a.sh.length≤1048576) (t:Trf) (hr:t.rules.length≤1048576) (w:List Wnt) (wx:Bool) {d:D} {l:List Prt} (h:LQ 4 Prt.enc S d l) (hl:l.length≤900) (hn:1048901≤n):∀st,callD E (dcall E n) st S 92 [.agg p.enc,.agg t.enc,.sl 8 (w.map Wnt.enc) wx,d]=some (.int .i64 (staysF p t w l),S):=by
 obtain⟨m,rfl⟩:∃m,n=m+1:=⟨n-1,by omega⟩
 refine obs_g rfl rfl fun S' hS=>?_
 rcases hS with hp |rfl
 ·simp only[pureL_cons,pureL_nil,D.pure,Bool.and_true,Bool.and_eq_true]at hp
  exact Stays26_d p hpa hsh t hr w wx (h.pure0 hp.2.2.2).lq hl (by omega)
 ·exact Stays26_d p hpa hsh t hr w wx h hl (by omega)
set_option maxHeartbeats 16000000 in
set_option maxRecDepth 100000 in
theorem whole26_d {S:List Ob} (w:List Wnt) (wx:Bool) {d:D} {l:List Prt} (h:LQ 4 Prt.enc S d l) (hl:l.length≤900) (hn:1000≤n):
  WO (dcall E (n+1) 90 [.sl 8 (w.map Wnt.enc) wx,d] S) fun r T=>r=.bool (wholeF w l)∧∃J,T=S++J:=by
 have hy:=lq_len Tryz.underlying37 h
 simp only[push_cast]at hy
 unfold wholeF
 obtain⟨q,hq⟩:∃q,q=whF l 0:=⟨_,rfl⟩
 rw[←hq]
 refine wo_dcall Tryz.func90 rfl (by decide) rfl 43 rfl (fun a hal ha=>?_)
 have h0:a[0]? =some (.sl 8 (w.map Wnt.enc) wx):=ha 0 (by simp)
 have h1:a[1]? =some (d):=ha 1 (by simp)
 clear ha
 refine wc_scut (fun a V=>V=S∧a.length=43∧a[0]? =some (.sl 8 (w.map Wnt.enc) wx)∧a[1]? =some (d)) ?_ ?_
 ·simp(maxSteps:=1000000)(disch:=omega)only[push_cast,decide_not,decide_eq_true_eq,decide_eq_false_iff_not,bne_eq_false_iff_eq,beq_eq_false_iff_ne,gt_iff_lt,ne_eq,not_true_eq_false,not_false_eq_true,hal,h0,h1,↓WX,simprocAttr]
 clear hal h0 h1 a
 rintro a V ⟨rfl,hal,h0,h1⟩
 refine wc_scut (fun a W=>W=V∧a.length=43∧a[0]? =some (.sl 8 (w.map Wnt.enc) wx)∧a[1]? =some (d)∧a[5]? =some (.int .i64 0)) ?_ ?_
 ·simp(maxSteps:=1000000)(disch:=omega)only[push_cast,decide_not,decide_eq_true_eq,decide_eq_false_iff_not,bne_eq_false_iff_eq,beq_eq_false_iff_ne,gt_iff_lt,ne_eq,not_true_eq_false,not_false_eq_true,hal,h0,h1,↓WX,simprocAttr]
 clear hal h0 h1 a
 rintro a W ⟨rfl,hal,h0,h1,h5⟩
 refine wc_rcut (fun a V=>(V=W∧∃k,a[5]? =some (.int .i64 k)∧q=some k)∧a.length=43∧a[0]? =some (.sl 8 (w.map Wnt.enc) wx)∧a[1]? =some (d)) ?_ ?_
 ·simp(maxSteps:=1000000)(disch:=omega)only[push_cast,decide_not,decide_eq_true_eq,decide_eq_false_iff_not,bne_eq_false_iff_eq,beq_eq_false_iff_ne,gt_iff_lt,ne_eq,not_true_eq_false,not_false_eq_true,hal,h0,h1,h5,↓WX,simprocAttr]
  refine wl_loop (fun i a T=>(T=W∧∃k,a[5]? =some (.int .i64 k)∧q=whF (l.drop i) k)∧a.length=43∧a[0]? =some (.sl 8 (w.map Wnt.enc) wx)∧a[1]? =some (d)∧a[6]? =some (.int .i64 i)) l.length ?_ (by omega) ?_
  ·simp(maxSteps:=1000000)(disch:=omega)only[push_cast,decide_not,decide_eq_true_eq,decide_eq_false_iff_not,bne_eq_false_iff_eq,beq_eq_false_iff_ne,gt_iff_lt,ne_eq,not_true_eq_false,not_false_eq_true,hal,h0,h1,h5,Int.natCast_zero,↓WX,simprocAttr]
   exact⟨_,rfl,hq⟩
  clear hal h0 h1 h5 a
  clear hq
  rintro i a T hi ⟨⟨rfl,k,h5,e⟩,hal,h0,h1,h6⟩
  rcases Nat.lt_or_eq_of_le hi with hlt |rfl
  case inr=>
   rw[List.drop_length,whF]at e
   simp(maxSteps:=1000000)(disch:=omega)only[push_cast,decide_not,decide_eq_true_eq,decide_eq_false_iff_not,bne_eq_false_iff_eq,beq_eq_false_iff_ne,gt_iff_lt,ne_eq,not_true_eq_false,not_false_eq_true,hal,h0,h1,h5,h6,hy,Int.lt_irrefl,false_and,false_or,or_false,true_and,↓WX,simprocAttr]
   exact⟨_,rfl,e⟩
  have hltc:(i:Int)<l.length:=by omega
  obtain⟨x,hx⟩:∃x,l[i]? =some x:=⟨l[i],by simp⟩
  rw[drop_at hx,whF]at e
  rcases h with ⟨-,rfl⟩ | ⟨lx,rfl,hk⟩ | ⟨kk,rfl,hk⟩
  ·cases hx
  case' inr.inr=>have hk:=hk [];rw[List.append_nil]at hk
  all_goals
   cases c1:decide (x.fr=k)
   ·rw[c1]at e
    simp only[Bool.not_false,Bool.true_or,if_true]at e
    subst e
    simp(maxSteps:=1000000)(disch:=omega)only[push_cast,decide_not,decide_eq_true_eq,decide_eq_false_iff_not,bne_eq_false_iff_eq,beq_eq_false_iff_ne,gt_iff_lt,ne_eq,not_true_eq_false,not_false_eq_true,hal,h0,h1,h5,h6,hk,hltc,hlt,hx,c1,Bool.not_false,Prt.enc,false_and,false_or,or_false,true_and,Tryz.f90,↓WX,simprocAttr]
    exact⟨[],(List.append_nil _).symm⟩
   cases c2:decide (x.to≤k)
   ·rw[c1,c2]at e
    simp only[Bool.not_true,Bool.or_self,Bool.false_eq_true,if_false]at e
    simp(maxSteps:=1000000)(disch:=omega)only[push_cast,decide_not,decide_eq_true_eq,decide_eq_false_iff_not,bne_eq_false_iff_eq,beq_eq_false_iff_ne,gt_iff_lt,ne_eq,not_true_eq_false,not_false_eq_true,hal,h0,h1,h5,h6,hk,hltc,hlt,hx,c1,c2,Bool.not_true,Prt.enc,wrap_ok,Int.natCast_add,Int.natCast_one,↓WX,simprocAttr]
    exact⟨_,rfl,e⟩
   ·rw[c1,c2]at e
    simp only[Bool.not_true,Bool.false_or,if_true]at e
    subst e
    simp(maxSteps:=1000000)(disch:=omega)only[push_cast,decide_not,decide_eq_true_eq,decide_eq_false_iff_not,bne_eq_false_iff_eq,beq_eq_false_iff_ne,gt_iff_lt,ne_eq,not_true_eq_false,not_false_eq_true,hal,h0,h1,h5,h6,hk,hltc,hlt,hx,c1,c2,Bool.not_true,Prt.enc,false_and,false_or,or_false,true_and,Tryz.f90,↓WX,simprocAttr]
    exact⟨[],(List.append_nil _).symm⟩
 clear hal h0 h1 h5 a
 rintro a V ⟨⟨rfl,k,h5,rfl⟩,hal,h0,h1⟩
 cases c:decide ((l.length:Int)>0)
 ·have c':((0:Int)<l.length)=False:=eq_false (of_decide_eq_false c)
  simp(maxSteps:=1000000)(disch:=omega)only[push_cast,decide_not,decide_eq_true_eq,decide_eq_false_iff_not,bne_eq_false_iff_eq,beq_eq_false_iff_ne,gt_iff_lt,ne_eq,not_true_eq_false,not_false_eq_true,hal,h0,h1,h5,hy,c,c',Bool.false_and,Tryz.f90,↓WX,simprocAttr]
  exact⟨[],(List.append_nil _).symm⟩
 ·have c':((0:Int)<l.length)=True:=eq_true (of_decide_eq_true c)
  simp(maxSteps:=1000000)(disch:=omega)only[push_cast,decide_not,decide_eq_true_eq,decide_eq_false_iff_not,bne_eq_false_iff_eq,beq_eq_false_iff_ne,gt_iff_lt,ne_eq,not_true_eq_false,not_false_eq_true,hal,h0,h1,h5,hy,c,c',Bool.true_and,Tryz.f90,↓WX,simprocAttr]
  exact⟨[],(List.append_nil _).symm⟩
theorem whole26_x {S:List Ob} (w:List Wnt) (wx:Bool) {d:D} {l:List Prt} (h:LQ 4 Prt.enc S d l) (hl:l.length≤900) (hn:1001≤n):∀st,callD E (dcall E n) st S 90 [.sl 8 (w.map Wnt.enc) wx,d]=some (.bool (wholeF w l),S):=by
 obtain⟨m,rfl⟩:∃m,n=m+1:=⟨n-1,by omega⟩
 refine obs_g rfl rfl fun S' hS=>?_
 rcases hS with hp |rfl
 ·simp only[pureL_cons,pureL_nil,D.pure,Bool.and_true,Bool.and_eq_true]at hp
  exact whole26_d w wx (h.pure0 hp.2).lq hl (by omega)
 ·exact whole26_d w wx h hl (by omega)
set_option maxHeartbeats 16000000 in
set_option maxRecDepth 100000 in
theorem Check26_d {S:List Ob} (p:Plc) (hpa:p.aps.length≤1048576) (hsh:∀a∈p.aps,a.sh.length≤1048576) (t:Trf) (hr:t.rules.length≤1048576) (hcb:∀r∈t.rules,r.comb.length≤1048576) (w:List Wnt) (wx:Bool) {d:D} {l:List Prt} (h:LQ 4 Prt.enc S d l) (hl:l.length≤900) (hn:1049000≤n):
  WO (dcall E (n+1) 35 [.agg p.enc,.agg t.enc,.sl 8 (w.map Wnt.enc) wx,d] S) fun r T=>r=.int .i64 (checkF p t w l)∧∃J,T=S++J:=by
 obtain⟨R0,hR0⟩:∃R0,R0=Ob.row 2 [p.enc]:=⟨_,rfl⟩
 obtain⟨R1,hR1⟩:∃R1,R1=Ob.row 4 [t.enc]:=⟨_,rfl⟩
 have hext:ExtS S (S++[R0]++[R1]):=fun _ _ h=>get_old (get_old h)
 have cwh:=whole26_x (n:=n) w wx (h.ext hext) hl (by omega)
 obtain⟨dp,U,cpa,hXU,hlp⟩:=Pairs26_x (n:=n) t (h.ext hext) hl (by omega)
 have hXU':ExtS S U:=fun k o ho=>hXU _ _ (hext _ _ ho)
 obtain⟨JU,hJU⟩:=extS_pre hXU'
 have cmi:=Mixed26_x (n:=n) t (h.ext hXU') hl hr hcb (by omega)
 have cst:=Stays26_x (n:=n) p hpa hsh t hr w wx (h.ext hXU') hl (by omega)
 clear hlp
 obtain⟨q,hq⟩:∃q,q=checkF p t w l:=⟨_,rfl⟩
 rw[←hq]
 unfold checkF at hq
 generalize wholeF w l=bw at*
 generalize (pairsF t l).2=pe at*
 generalize mixedF t l=me at*
 generalize staysF p t w l=se at*
 simp only[Plc.enc,Trf.enc]at cpa cmi cst hR0 hR1 ⊢
 refine wo_dcall Tryz.func35 rfl (by decide) rfl 36 rfl (fun a hal ha=>?_)
 have h0:a[0]? =some (.agg [.sl 5 (p.aps.map Apt.enc) p.apsx,.sl 3 (p.dts.map Dst.enc) p.dtsx]):=ha 0 (by simp)
 have h1:a[1]? =some (.agg [.sl 9 (t.fares.map Far.enc) t.fx,.sl 15 (t.rules.map Rul.enc) t.rx,.sl 3 (t.rous.map Rou.enc) t.ox,.sl 7 (t.taxes.map Tx.enc) t.tx]):=ha 1 (by simp)
 have h2:a[2]? =some (.sl 8 (w.map Wnt.enc) wx):=ha 2 (by simp)
 have h3:a[3]? =some (d):=ha 3 (by simp)
 clear ha
 refine wc_scut (fun a V=>V=S++[R0]++[R1]∧a.length=36∧a[2]? =some (.sl 8 (w.map Wnt.enc) wx)∧a[3]? =some (d)∧a[4]? =some (.loc S.length 0 0)∧a[5]? =some (.loc (S.length+1) 0 0)) ?_ ?_
 ·simp(maxSteps:=1000000)(disch:=omega)only[push_cast,decide_not,decide_eq_true_eq,decide_eq_false_iff_not,bne_eq_false_iff_eq,beq_eq_false_iff_ne,gt_iff_lt,ne_eq,not_true_eq_false,not_false_eq_true,hal,h0,h1,h2,h3,hR0,hR1,List.length_append,List.length_cons,↓WX,simprocAttr]
 clear hal h0 h1 h2 h3 a
 rintro a V ⟨rfl,hal,h2,h3,h4,h5⟩
 have gP:(S++[R0]++[R1])[S.length]? =some (Ob.row 2 [[.sl 5 (p.aps.map Apt.enc) p.apsx,.sl 3 (p.dts.map Dst.enc) p.dtsx]]):=by rw[hR0];exact end0
 have gT:(S++[R0]++[R1])[S.length+1]? =some (Ob.row 4 [[.sl 9 (t.fares.map Far.enc) t.fx,.sl 15 (t.rules.map Rul.enc) t.rx,.sl 3 (t.rous.map Rou.enc) t.ox,.sl 7 (t.taxes.map Tx.enc) t.tx]]):=by rw[hR1];exact end1
 have hJV:∃J,S++[R0]++[R1]=S++J:=⟨[R0,R1],by simp⟩
 generalize S++[R0]++[R1]=V0 at*
 refine wc_rcut (fun a V=>(V=V0∧bw=true)∧a.length=36∧a[2]? =some (.sl 8 (w.map Wnt.enc) wx)∧a[3]? =some (d)∧a[4]? =some (.loc S.length 0 0)∧a[5]? =some (.loc (S.length+1) 0 0)) ?_ ?_
 ·cases bw
  ·simp only[Bool.false_eq_true,if_false]at hq
   subst hq
   simp(maxSteps:=1000000)(disch:=omega)only[push_cast,decide_not,decide_eq_true_eq,decide_eq_false_iff_not,bne_eq_false_iff_eq,beq_eq_false_iff_ne,gt_iff_lt,ne_eq,not_true_eq_false,not_false_eq_true,hal,h2,h3,h4,h5,cwh,Bool.not_false,false_and,false_or,or_false,true_and,Tryz.f35,↓WX,simprocAttr]
   exact hJV
  ·simp(maxSteps:=1000000)(disch:=omega)only[push_cast,decide_not,decide_eq_true_eq,decide_eq_false_iff_not,bne_eq_false_iff_eq,beq_eq_false_iff_ne,gt_iff_lt,ne_eq,not_true_eq_false,not_false_eq_true,hal,h2,h3,h4,h5,cwh,Bool.not_true,false_and,false_or,or_false,true_and,↓WX,simprocAttr]
 clear hal h2 h3 h4 h5 a
 rintro a V ⟨⟨rfl,rfl⟩,hal,h2,h3,h4,h5⟩
 simp only[if_true]at hq
 refine wc_rcut (fun a W=>(W=U∧pe=0)∧a.length=36∧a[2]? =some (.sl 8 (w.map Wnt.enc) wx)∧a[3]? =some (d)∧a[4]? =some (.loc S.length 0 0)∧a[5]? =some (.loc (S.length+1) 0 0)) ?_ ?_
 ·by_cases c:pe=0
  ·subst c
   simp(maxSteps:=1000000)(disch:=omega)only[push_cast,decide_not,decide_eq_true_eq,decide_eq_false_iff_not,bne_eq_false_iff_eq,beq_eq_false_iff_ne,gt_iff_lt,ne_eq,not_true_eq_false,not_false_eq_true,hal,h2,h3,h4,h5,gT,cpa,decide_true,Bool.not_true,false_and,false_or,or_false,true_and,↓WX,simprocAttr]
  ·rw[if_neg c]at hq
   subst hq
   simp(maxSteps:=1000000)(disch:=omega)only[push_cast,decide_not,decide_eq_true_eq,decide_eq_false_iff_not,bne_eq_false_iff_eq,beq_eq_false_iff_ne,gt_iff_lt,ne_eq,not_true_eq_false,not_false_eq_true,hal,h2,h3,h4,h5,gT,cpa,c,decide_false,Bool.not_false,false_and,false_or,or_false,true_and,Tryz.f35,↓WX,simprocAttr]
   exact⟨_,hJU⟩
 clear hal h2 h3 h4 h5 a
 rintro a W ⟨⟨rfl,rfl⟩,hal,h2,h3,h4,h5⟩
 simp only[if_true]at hq
 replace gP:=hXU _ _ gP
 replace gT:=hXU _ _ gT
 refine wc_rcut (fun a V=>(V=W∧me=0)∧a.length=36∧a[2]? =some (.sl 8 (w.map Wnt.enc) wx)∧a[3]? =some (d)∧a[4]? =some (.loc S.length 0 0)∧a[5]? =some (.loc (S.length+1) 0 0)) ?_ ?_
 ·by_cases c:me=0
  ·subst c
   simp(maxSteps:=1000000)(disch:=omega)only[push_cast,decide_not,decide_eq_true_eq,decide_eq_false_iff_not,bne_eq_false_iff_eq,beq_eq_false_iff_ne,gt_iff_lt,ne_eq,not_true_eq_false,not_false_eq_true,hal,h2,h3,h4,h5,gT,cmi,decide_true,Bool.not_true,false_and,false_or,or_false,true_and,↓WX,simprocAttr]
  ·rw[if_neg c]at hq
   subst hq
   simp(maxSteps:=1000000)(disch:=omega)only[push_cast,decide_not,decide_eq_true_eq,decide_eq_false_iff_not,bne_eq_false_iff_eq,beq_eq_false_iff_ne,gt_iff_lt,ne_eq,not_true_eq_false,not_false_eq_true,hal,h2,h3,h4,h5,gT,cmi,c,decide_false,Bool.not_false,false_and,false_or,or_false,true_and,Tryz.f35,↓WX,simprocAttr]
   exact⟨_,hJU⟩
 clear hal h2 h3 h4 h5 a
 rintro a V ⟨⟨rfl,rfl⟩,hal,h2,h3,h4,h5⟩
 simp only[if_true]at hq
 subst hq
 simp(maxSteps:=1000000)(disch:=omega)only[push_cast,decide_not,decide_eq_true_eq,decide_eq_false_iff_not,bne_eq_false_iff_eq,beq_eq_false_iff_ne,gt_iff_lt,ne_eq,not_true_eq_false,not_false_eq_true,hal,h2,h3,h4,h5,gP,gT,cst,Tryz.f35,↓WX,simprocAttr]
 exact⟨_,hJU⟩
theorem Check26_x {S:List Ob} (p:Plc) (hpa:p.aps.length≤1048576) (hsh:∀a∈p.aps,a.sh.length≤1048576) (t:Trf) (hr:t.rules.length≤1048576) (hcb:∀r∈t.rules,r.comb.length≤1048576) (w:List Wnt) (wx:Bool) {d:D} {l:List Prt} (h:LQ 4 Prt.enc S d l) (hl:l.length≤900) (hn:1049001≤n):∀st,callD E (dcall E n) st S 35 [.agg p.enc,.agg t.enc,.sl 8 (w.map Wnt.enc) wx,d]=some (.int .i64 (checkF p t w l),S):=by
 obtain⟨m,rfl⟩:∃m,n=m+1:=⟨n-1,by omega⟩
 refine obs_g rfl rfl fun S' hS=>?_
 rcases hS with hp |rfl
 ·simp only[pureL_cons,pureL_nil,D.pure,Bool.and_true,Bool.and_eq_true]at hp
  exact Check26_d p hpa hsh t hr hcb w wx (h.pure0 hp.2.2.2).lq hl (by omega)
 ·exact Check26_d p hpa hsh t hr hcb w wx h hl (by omega)
end
end Go.Proofs.YtaklebjoenophaaGreat.Dm
