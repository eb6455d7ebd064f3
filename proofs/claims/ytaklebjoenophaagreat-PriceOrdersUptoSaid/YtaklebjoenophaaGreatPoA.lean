/-
  Prices: which one is preferred, and which are equal, by the program and by the reference.
-/
import Derived.Test.YtaklebjoenophaaGreatEnvB
import Derived.Test.YtaklebjoenophaaGreatPlT
import Derived.Test.YtaklebjoenophaaGreatWq
set_option linter.unusedSimpArgs false
set_option linter.unusedVariables false
namespace Go.Proofs.YtaklebjoenophaaGreat.Dm
open Go Gw
set_option linter.unusedSimpArgs false
set_option linter.unusedSimpArgs false
structure Prt where
 fr:Int
 to:Int
 fa:Int
 am:Int
def Prt.enc (r:Prt):List D:=[.int .i64 r.fr,.int .i64 r.to,.int .i64 r.fa,.int .i64 r.am]
theorem Prt_pure (r:Prt):pureL r.enc=true:=rfl
theorem Prts_pure (l:List Prt):pureLL (l.map Prt.enc)=true:=by
 induction l with
 |nil=>rfl
 |cons f fs ih=>rw[List.map_cons,pureLL_cons,ih,Prt_pure];rfl
def encPr (p:Int×Int):List D:=[.int .i64 p.1,.int .i64 p.2]
theorem encPr_pure (p:Int×Int):pureL (encPr p)=true:=rfl
theorem encPrs_pure (l:List (Int×Int)):pureLL (l.map encPr)=true:=by
 induction l with
 |nil=>rfl
 |cons f fs ih=>rw[List.map_cons,pureLL_cons,ih,encPr_pure];rfl
def encCh (p:ByteArray×Int):List D:=[.str p.1,.int .i64 p.2]
theorem encCh_pure (p:ByteArray×Int):pureL (encCh p)=true:=rfl
theorem encChs_pure (l:List (ByteArray×Int)):pureLL (l.map encCh)=true:=by
 induction l with
 |nil=>rfl
 |cons f fs ih=>rw[List.map_cons,pureLL_cons,ih,encCh_pure];rfl
structure Quo where
 parts:List Prt
 px:Bool
 pairs:List (Int×Int)
 qx:Bool
 taxes:List (ByteArray×Int)
 tx:Bool
 fare:Int
 total:Int
def Quo.enc (q:Quo):List D:=[.sl 4 (q.parts.map Prt.enc) q.px,.sl 2 (q.pairs.map encPr) q.qx,.sl 2 (q.taxes.map encCh) q.tx,.int .i64 q.fare,.int .i64 q.total]
theorem Quo_pure (q:Quo):pureL q.enc=true:=by
 simp only[D.pure,pureL_cons,pureL_nil,Bool.and_true,Bool.and_self,Quo.enc,Prts_pure,encPrs_pure,encChs_pure]
def ltP:List Prt→List Prt→Bool
 |x::xs,y::ys=>if x.to=y.to then if x.fa=y.fa then ltP xs ys else decide (x.fa<y.fa) else decide (x.to<y.to)
 |_,_=>false
def betterF (a b:Quo):Bool:=
 if a.total=b.total then if a.parts.length=b.parts.length then ltP a.parts b.parts else decide (a.parts.length<b.parts.length) else decide (a.total<b.total)
theorem ltP_drop {a b:List Prt} {i:Nat} {x y:Prt} (hx:a[i]? =some x) (hy:b[i]? =some y):ltP (a.drop i) (b.drop i)=if x.to=y.to then if x.fa=y.fa then ltP (a.drop (i+1)) (b.drop (i+1)) else decide (x.fa<y.fa) else decide (x.to<y.to):=by
 obtain⟨ha,rfl⟩:=List.getElem?_eq_some_iff.1 hx
 obtain⟨hb,rfl⟩:=List.getElem?_eq_some_iff.1 hy
 rw[List.drop_eq_getElem_cons ha,List.drop_eq_getElem_cons hb]
 rfl
theorem zePart:zeroT Tryz.prog 79=some (.agg [.int .i64 0,.int .i64 0,.int .i64 0,.int .i64 0]):=by kernel_rfl
theorem end0 {α:Type} {l:List α} {x y:α}:(l++[x]++[y])[l.length]? =some x:=by simp
theorem end1 {α:Type} {l:List α} {x y:α}:(l++[x]++[y])[l.length+1]? =some y:=by
 rw[show l.length+1=(l++[x]).length by simp]
 exact get_end
theorem end1s {α:Type} {l:List α} {x y z:α}:(l++[x]++[y]).set (l.length+1) z=l++[x]++[z]:=by
 rw[show l.length+1=(l++[x]).length by simp]
 exact set_end
section
variable {n : Nat}
set_option maxHeartbeats 8000000 in
set_option maxRecDepth 100000 in
theorem PBetter_c (u v:Quo) (hl:u.parts.length≤1048576) (hn:1048580≤n):∀st S,callD E (dcall E n) st S 15 [.agg u.enc,.agg v.enc]=some (.bool (betterF u v),S):=by
 obtain⟨m,rfl⟩:∃m,n=m+1:=⟨n-1,by omega⟩
 have hpa:=Quo_pure u
 have hpb:=Quo_pure v
 simp only[Quo.enc]at hpa hpb ⊢
 obtain⟨ra,hra⟩:∃r:List D,r=[.sl 4 (u.parts.map Prt.enc) u.px,.sl 2 (u.pairs.map encPr) u.qx,.sl 2 (u.taxes.map encCh) u.tx,.int .i64 u.fare,.int .i64 u.total]:=⟨_,rfl⟩
 obtain⟨rb,hrb⟩:∃r:List D,r=[.sl 4 (v.parts.map Prt.enc) v.px,.sl 2 (v.pairs.map encPr) v.qx,.sl 2 (v.taxes.map encCh) v.tx,.int .i64 v.fare,.int .i64 v.total]:=⟨_,rfl⟩
 have:WO (dcall E (m+1) 15 [.agg [.sl 4 (u.parts.map Prt.enc) u.px,.sl 2 (u.pairs.map encPr) u.qx,.sl 2 (u.taxes.map encCh) u.tx,.int .i64 u.fare,.int .i64 u.total],.agg [.sl 4 (v.parts.map Prt.enc) v.px,.sl 2 (v.pairs.map encPr) v.qx,.sl 2 (v.taxes.map encCh) v.tx,.int .i64 v.fare,.int .i64 v.total]] []) fun r T=>r=.bool (betterF u v):=by
  refine wo_dcall Tryz.func15 rfl (by decide) rfl 68 rfl (fun a hal ha=>?_)
  have h0:a[0]? =some (.agg [.sl 4 (u.parts.map Prt.enc) u.px,.sl 2 (u.pairs.map encPr) u.qx,.sl 2 (u.taxes.map encCh) u.tx,.int .i64 u.fare,.int .i64 u.total]):=ha 0 (by simp)
  have h1:a[1]? =some (.agg [.sl 4 (v.parts.map Prt.enc) v.px,.sl 2 (v.pairs.map encPr) v.qx,.sl 2 (v.taxes.map encCh) v.tx,.int .i64 v.fare,.int .i64 v.total]):=ha 1 (by simp)
  clear ha
  by_cases c1:u.total=v.total
  case neg=>
   have d1:decide (u.total=v.total)=false:=decide_eq_false c1
   simp(maxSteps:=1000000)(disch:=omega)only[push_cast,decide_not,decide_eq_true_eq,decide_eq_false_iff_not,bne_eq_false_iff_eq,beq_eq_false_iff_ne,gt_iff_lt,ne_eq,not_true_eq_false,not_false_eq_true,hal,h0,h1,d1,Bool.not_false,Tryz.f15,↓WX,simprocAttr]
   unfold betterF
   rw[if_neg c1]
  have d1:decide (u.total=v.total)=true:=decide_eq_true c1
  by_cases c2:u.parts.length=v.parts.length
  case neg=>
   have d2:decide ((u.parts.length:Int)=v.parts.length)=false:=decide_eq_false (by omega)
   simp(maxSteps:=1000000)(disch:=omega)only[push_cast,decide_not,decide_eq_true_eq,decide_eq_false_iff_not,bne_eq_false_iff_eq,beq_eq_false_iff_ne,gt_iff_lt,ne_eq,not_true_eq_false,not_false_eq_true,hal,h0,h1,d1,d2,Bool.not_false,Bool.not_true,Tryz.f15,↓WX,simprocAttr]
   unfold betterF
   rw[if_pos c1,if_neg c2]
  have d2:decide ((u.parts.length:Int)=v.parts.length)=true:=decide_eq_true (by omega)
  have e0:betterF u v=ltP u.parts v.parts:=by unfold betterF;rw[if_pos c1,if_pos c2]
  simp(maxSteps:=1000000)(disch:=omega)only[push_cast,decide_not,decide_eq_true_eq,decide_eq_false_iff_not,bne_eq_false_iff_eq,beq_eq_false_iff_ne,gt_iff_lt,ne_eq,not_true_eq_false,not_false_eq_true,hal,h0,h1,d1,d2,Bool.not_true,↓WX,simprocAttr]
  refine wl_loop (fun i a T=>((∃X,T=Ob.row 5 [ra]::Ob.row 5 [rb]::X)∧betterF u v=ltP (u.parts.drop i) (v.parts.drop i))∧a.length=68∧a[3]? =some (.loc 1 0 0)∧a[35]? =some (.sl 4 (u.parts.map Prt.enc) u.px)∧a[36]? =some (.int .i64 u.parts.length)∧a[37]? =some (.int .i64 i)) u.parts.length ?_ (by omega) ?_
  ·simp(maxSteps:=1000000)(disch:=omega)only[push_cast,decide_not,decide_eq_true_eq,decide_eq_false_iff_not,bne_eq_false_iff_eq,beq_eq_false_iff_ne,gt_iff_lt,ne_eq,not_true_eq_false,not_false_eq_true,hal,h0,h1,Int.natCast_zero,↓WX,simprocAttr]
   exact⟨⟨[],by rw[hra,hrb]⟩,e0⟩
  clear hal h0 h1 a
  rintro i a T hi ⟨⟨⟨X,rfl⟩,e⟩,hal,h3,h35,h36,h37⟩
  rcases Nat.lt_or_eq_of_le hi with hlt |rfl
  case inr=>
   simp(maxSteps:=1000000)(disch:=omega)only[push_cast,decide_not,decide_eq_true_eq,decide_eq_false_iff_not,bne_eq_false_iff_eq,beq_eq_false_iff_ne,gt_iff_lt,ne_eq,not_true_eq_false,not_false_eq_true,hal,h3,h35,h36,h37,Int.lt_irrefl,Tryz.f15,↓WX,simprocAttr]
   rw[e,List.drop_of_length_le (Nat.le_refl _)]
   unfold ltP
   rfl
  have hltc:(i:Int)<u.parts.length:=by omega
  have hltv:i<v.parts.length:=by omega
  obtain⟨x,hx⟩:∃x,u.parts[i]? =some x:=⟨u.parts[i],by simp⟩
  obtain⟨y,hy⟩:∃y,v.parts[i]? =some y:=⟨v.parts[i],by simp⟩
  rw[ltP_drop hx hy]at e
  subst hrb
  by_cases q1:x.to=y.to
  case neg=>
   rw[if_neg q1]at e
   have p1:decide (x.to=y.to)=false:=decide_eq_false q1
   simp(maxSteps:=1000000)(disch:=omega)only[push_cast,decide_not,decide_eq_true_eq,decide_eq_false_iff_not,bne_eq_false_iff_eq,beq_eq_false_iff_ne,gt_iff_lt,ne_eq,not_true_eq_false,not_false_eq_true,hal,h3,h35,h36,h37,hltc,hlt,hltv,hx,hy,p1,Bool.not_false,Prt.enc,end0,end1,end1s,get_end,set_end,List.length_append,List.length_singleton,Tryz.f15,↓WX,simprocAttr]
   rw[e]
  rw[if_pos q1]at e
  have p1:decide (x.to=y.to)=true:=decide_eq_true q1
  by_cases q2:x.fa=y.fa
  case neg=>
   rw[if_neg q2]at e
   have p2:decide (x.fa=y.fa)=false:=decide_eq_false q2
   simp(maxSteps:=1000000)(disch:=omega)only[push_cast,decide_not,decide_eq_true_eq,decide_eq_false_iff_not,bne_eq_false_iff_eq,beq_eq_false_iff_ne,gt_iff_lt,ne_eq,not_true_eq_false,not_false_eq_true,hal,h3,h35,h36,h37,hltc,hlt,hltv,hx,hy,p1,p2,Bool.not_false,Bool.not_true,Prt.enc,end0,end1,end1s,get_end,set_end,List.length_append,List.length_singleton,Tryz.f15,↓WX,simprocAttr]
   rw[e]
  rw[if_pos q2]at e
  have p2:decide (x.fa=y.fa)=true:=decide_eq_true q2
  simp(maxSteps:=1000000)(disch:=omega)only[push_cast,decide_not,decide_eq_true_eq,decide_eq_false_iff_not,bne_eq_false_iff_eq,beq_eq_false_iff_ne,gt_iff_lt,ne_eq,not_true_eq_false,not_false_eq_true,hal,h3,h35,h36,h37,hltc,hlt,hltv,hx,hy,p1,p2,Bool.not_true,Prt.enc,end0,end1,end1s,get_end,set_end,List.length_append,List.length_singleton,wrap_ok,Int.natCast_add,Int.natCast_one,↓WX,simprocAttr]
  exact⟨⟨_,rfl⟩,e⟩
 obtain⟨_,T,ho,rfl⟩:=this
 exact fun st S=>callD_obsP rfl (by simp only[pureL_cons,pureL_nil,D.pure,Bool.and_true]at hpa hpb ⊢;rw[Bool.and_eq_true];exact⟨hpa,hpb⟩) ho rfl
def planB:Plan:=(steps [0,1,2,3,4,5,7] (.both (steps [6] (.both (steps [8] (.both (steps [9] (.both (.step 10 (.step 11 (steps [12,13] .done))) (.step 11 (.step 10 (steps [12,13] .done))))) (.both (.step 10 (.both (steps [9] (.step 11 (steps [12,13] .done))) (.step 11 (.both (steps [9,12,13] .done) (steps [12,9,13] .done))))) (.step 11 (.both (steps [9] (.step 10 (steps [12,13] .done))) (.step 10 (.both (steps [9,12,13] .done) (steps [12,9,13] .done)))))))) (.both (.step 10 (.both (steps [8] (.both (steps [9] (.step 11 (steps [12,13] .done))) (.step 11 (.both (steps [9,12,13] .done) (steps [12,9,13] .done))))) (.step 11 (.both (steps [8] (.both (steps [9,12,13] .done) (steps [12,9,13] .done))) (steps [12,8,9,13] .done))))) (.step 11 (.both (steps [8] (.both (steps [9] (.step 10 (steps [12,13] .done))) (.step 10 (.both (steps [9,12,13] .done) (steps [12,9,13] .done))))) (.step 10 (.both (steps [8] (.both (steps [9,12,13] .done) (steps [12,9,13] .done))) (steps [12,8,9,13] .done)))))))) (.both (.step 10 (.both (steps [6] (.both (steps [8] (.both (steps [9] (.step 11 (steps [12,13] .done))) (.step 11 (.both (steps [9,12,13] .done) (steps [12,9,13] .done))))) (.step 11 (.both (steps [8] (.both (steps [9,12,13] .done) (steps [12,9,13] .done))) (steps [12,8,9,13] .done))))) (.step 11 (.both (steps [6] (.both (steps [8] (.both (steps [9,12,13] .done) (steps [12,9,13] .done))) (steps [12,8,9,13] .done))) (steps [12,6,8,9,13] .done))))) (.step 11 (.both (steps [6] (.both (steps [8] (.both (steps [9] (.step 10 (steps [12,13] .done))) (.step 10 (.both (steps [9,12,13] .done) (steps [12,9,13] .done))))) (.step 10 (.both (steps [8] (.both (steps [9,12,13] .done) (steps [12,9,13] .done))) (steps [12,8,9,13] .done))))) (.step 10 (.both (steps [6] (.both (steps [8] (.both (steps [9,12,13] .done) (steps [12,9,13] .done))) (steps [12,8,9,13] .done))) (steps [12,6,8,9,13] .done))))))))
set_option maxHeartbeats 16000000 in
set_option maxRecDepth 100000 in
theorem RBetter_c (u v:Quo) (hl:u.parts.length≤1048576) (hn:1048580≤n):∀st S,callD E (dcall E n) st S 16 [.agg u.enc,.agg v.enc]=some (.bool (betterF u v),S):=by
 obtain⟨m,rfl⟩:∃m,n=m+1:=⟨n-1,by omega⟩
 have hpa:=Quo_pure u
 have hpb:=Quo_pure v
 simp only[Quo.enc]at hpa hpb ⊢
 obtain⟨B,hB⟩:∃r:Ob,r=Ob.row 5 [[.sl 4 (u.parts.map Prt.enc) u.px,.sl 2 (u.pairs.map encPr) u.qx,.sl 2 (u.taxes.map encCh) u.tx,.int .i64 u.fare,.int .i64 u.total]]:=⟨_,rfl⟩
 obtain⟨C,hC⟩:∃r:Ob,r=Ob.row 5 [[.sl 4 (v.parts.map Prt.enc) v.px,.sl 2 (v.pairs.map encPr) v.qx,.sl 2 (v.taxes.map encCh) v.tx,.int .i64 v.fare,.int .i64 v.total]]:=⟨_,rfl⟩
 have:WO (dcall E (m+1) 16 [.agg [.sl 4 (u.parts.map Prt.enc) u.px,.sl 2 (u.pairs.map encPr) u.qx,.sl 2 (u.taxes.map encCh) u.tx,.int .i64 u.fare,.int .i64 u.total],.agg [.sl 4 (v.parts.map Prt.enc) v.px,.sl 2 (v.pairs.map encPr) v.qx,.sl 2 (v.taxes.map encCh) v.tx,.int .i64 v.fare,.int .i64 v.total]] []) fun r T=>r=.bool (betterF u v):=by
  refine wo_dcall Tryz.func16 rfl (by decide) rfl 69 rfl (fun a hal ha=>?_)
  have h0:a[0]? =some (.agg [.sl 4 (u.parts.map Prt.enc) u.px,.sl 2 (u.pairs.map encPr) u.qx,.sl 2 (u.taxes.map encCh) u.tx,.int .i64 u.fare,.int .i64 u.total]):=ha 0 (by simp)
  have h1:a[1]? =some (.agg [.sl 4 (v.parts.map Prt.enc) v.px,.sl 2 (v.pairs.map encPr) v.qx,.sl 2 (v.taxes.map encCh) v.tx,.int .i64 v.fare,.int .i64 v.total]):=ha 1 (by simp)
  clear ha
  by_cases c1:u.total=v.total
  case neg=>
   have d1:decide (u.total=v.total)=false:=decide_eq_false c1
   simp(maxSteps:=1000000)(disch:=omega)only[push_cast,decide_not,decide_eq_true_eq,decide_eq_false_iff_not,bne_eq_false_iff_eq,beq_eq_false_iff_ne,gt_iff_lt,ne_eq,not_true_eq_false,not_false_eq_true,hal,h0,h1,d1,Bool.not_false,Tryz.f16,↓WX,simprocAttr]
   unfold betterF
   rw[if_neg c1]
  have d1:decide (u.total=v.total)=true:=decide_eq_true c1
  by_cases c2:u.parts.length=v.parts.length
  case neg=>
   have d2:decide ((u.parts.length:Int)=v.parts.length)=false:=decide_eq_false (by omega)
   simp(maxSteps:=1000000)(disch:=omega)only[push_cast,decide_not,decide_eq_true_eq,decide_eq_false_iff_not,bne_eq_false_iff_eq,beq_eq_false_iff_ne,gt_iff_lt,ne_eq,not_true_eq_false,not_false_eq_true,hal,h0,h1,d1,d2,Bool.not_false,Bool.not_true,Tryz.f16,↓WX,simprocAttr]
   unfold betterF
   rw[if_pos c1,if_neg c2]
  have d2:decide ((u.parts.length:Int)=v.parts.length)=true:=decide_eq_true (by omega)
  have e0:betterF u v=ltP u.parts v.parts:=by unfold betterF;rw[if_pos c1,if_pos c2]
  simp(maxSteps:=1000000)(disch:=omega)only[push_cast,decide_not,decide_eq_true_eq,decide_eq_false_iff_not,bne_eq_false_iff_eq,beq_eq_false_iff_ne,gt_iff_lt,ne_eq,not_true_eq_false,not_false_eq_true,hal,h0,h1,d1,d2,Bool.not_true,↓WX,simprocAttr]
  refine wl_loop (fun i a T=>((∃X,T=B::C::X)∧betterF u v=ltP (u.parts.drop i) (v.parts.drop i))∧a.length=69∧a[2]? =some (.loc 0 0 0)∧a[3]? =some (.loc 1 0 0)∧a[5]? =some (.int .i64 i)) u.parts.length ?_ (by omega) ?_
  ·simp(maxSteps:=1000000)(disch:=omega)only[push_cast,decide_not,decide_eq_true_eq,decide_eq_false_iff_not,bne_eq_false_iff_eq,beq_eq_false_iff_ne,gt_iff_lt,ne_eq,not_true_eq_false,not_false_eq_true,hal,h0,h1,Int.natCast_zero,↓WX,simprocAttr]
   exact⟨⟨[],by rw[hB,hC]⟩,e0⟩
  clear hal h0 h1 a
  rintro i a T hi ⟨⟨⟨X,hT⟩,e⟩,hal,h2,h3,h5⟩
  have hb0:∀m,(T++m)[0]? =some (Ob.row 5 [[.sl 4 (u.parts.map Prt.enc) u.px,.sl 2 (u.pairs.map encPr) u.qx,.sl 2 (u.taxes.map encCh) u.tx,.int .i64 u.fare,.int .i64 u.total]]):=fun m=>by rw[hT,←hB];rfl
  have hb1:∀m,(T++m)[1]? =some (Ob.row 5 [[.sl 4 (v.parts.map Prt.enc) v.px,.sl 2 (v.pairs.map encPr) v.qx,.sl 2 (v.taxes.map encCh) v.tx,.int .i64 v.fare,.int .i64 v.total]]):=fun m=>by rw[hT,←hC];rfl
  have hT0:=hb0 []
  rw[List.append_nil]at hT0
  rcases Nat.lt_or_eq_of_le hi with hlt |rfl
  case inr=>
   simp(maxSteps:=1000000)(disch:=omega)only[push_cast,decide_not,decide_eq_true_eq,decide_eq_false_iff_not,bne_eq_false_iff_eq,beq_eq_false_iff_ne,gt_iff_lt,ne_eq,not_true_eq_false,not_false_eq_true,hal,h2,h3,h5,hT0,Int.lt_irrefl,Tryz.f16,↓WX,simprocAttr]
   rw[e,List.drop_of_length_le (Nat.le_refl _)]
   unfold ltP
   rfl
  have hltc:(i:Int)<u.parts.length:=by omega
  have hltv:i<v.parts.length:=by omega
  obtain⟨x,hx⟩:∃x,u.parts[i]? =some x:=⟨u.parts[i],by simp⟩
  obtain⟨y,hy⟩:∃y,v.parts[i]? =some y:=⟨v.parts[i],by simp⟩
  rw[ltP_drop hx hy]at e
  refine wc_scut (fun a V=>V=T∧a.length=69∧a[2]? =some (.loc 0 0 0)∧a[3]? =some (.loc 1 0 0)∧a[5]? =some (.int .i64 i)) ?_ ?_
  ·simp(maxSteps:=1000000)(disch:=omega)only[push_cast,decide_not,decide_eq_true_eq,decide_eq_false_iff_not,bne_eq_false_iff_eq,beq_eq_false_iff_ne,gt_iff_lt,ne_eq,not_true_eq_false,not_false_eq_true,hal,h2,h3,h5,hT0,hltc,↓WX,simprocAttr]
  clear hal h2 h3 h5 a
  rintro a V ⟨rfl,hal,h2,h3,h5⟩
  rw[wc_seq,wc_block]
  refine wc_scut (fun a W=>W=V++[.row 4 [x.enc],.row 4 [y.enc]]∧a.length=69∧a[2]? =some (.loc 0 0 0)∧a[3]? =some (.loc 1 0 0)∧a[5]? =some (.int .i64 i)∧a[6]? =some (.loc V.length 0 0)∧a[7]? =some (.loc (V.length+1) 0 0)) ?_ ?_
  ·have g0:∀a b:Ob,(V++[a,b])[V.length+0]? =some a:=fun a b=>by simp
   have g1:∀a b:Ob,(V++[a,b])[V.length+1]? =some b:=fun a b=>by simp
   have g0':∀a b:Ob,(V++[a,b])[V.length]? =some a:=fun a b=>by simp
   have s0:∀a b c:Ob,(V++[a,b]).set (V.length+0) c=V++[c,b]:=fun a b c=>by simp
   have s0':∀a b c:Ob,(V++[a,b]).set V.length c=V++[c,b]:=fun a b c=>by simp
   have s1:∀a b c:Ob,(V++[a,b]).set (V.length+1) c=V++[a,c]:=fun a b c=>by simp
   rw[wc_planL (L:=[10,11]) (p:=planB) rfl]
   unfold planB
   show WR (planD _ _ _ _ _ _ _ (V++[.dead,.dead])) _
-- PLAN8
   rw[wp_pickL rfl]
   simp only[opsOf,List.filterMap_cons,List.filterMap_nil,List.getElem?_toArray,List.getElem?_cons_zero,List.getElem?_cons_succ]
   simp(maxSteps:=1000000)(disch:=omega)only[push_cast,decide_not,decide_eq_true_eq,decide_eq_false_iff_not,bne_eq_false_iff_eq,beq_eq_false_iff_ne,gt_iff_lt,ne_eq,not_true_eq_false,not_false_eq_true,hal,h2,h3,h5,hb0,hb1,g0,g1,s0,s1,g0',s0',hlt,hltv,hx,hy,Prt.enc,wp_doneL,List.set_set,↓set_sorti,id_eq,↓WX,simprocAttr]
   apply wp_bothL
   ·rw[wp_pickL rfl]
    simp only[opsOf,List.filterMap_cons,List.filterMap_nil,List.getElem?_toArray,List.getElem?_cons_zero,List.getElem?_cons_succ]
    simp(maxSteps:=1000000)(disch:=omega)only[push_cast,decide_not,decide_eq_true_eq,decide_eq_false_iff_not,bne_eq_false_iff_eq,beq_eq_false_iff_ne,gt_iff_lt,ne_eq,not_true_eq_false,not_false_eq_true,hal,h2,h3,h5,hb0,hb1,g0,g1,s0,s1,g0',s0',hlt,hltv,hx,hy,Prt.enc,wp_doneL,List.set_set,↓set_sorti,id_eq,↓WX,simprocAttr]
    apply wp_bothL
    ·rw[wp_pickL rfl]
     simp only[opsOf,List.filterMap_cons,List.filterMap_nil,List.getElem?_toArray,List.getElem?_cons_zero,List.getElem?_cons_succ]
     simp(maxSteps:=1000000)(disch:=omega)only[push_cast,decide_not,decide_eq_true_eq,decide_eq_false_iff_not,bne_eq_false_iff_eq,beq_eq_false_iff_ne,gt_iff_lt,ne_eq,not_true_eq_false,not_false_eq_true,hal,h2,h3,h5,hb0,hb1,g0,g1,s0,s1,g0',s0',hlt,hltv,hx,hy,Prt.enc,wp_doneL,List.set_set,↓set_sorti,id_eq,↓WX,simprocAttr]
     apply wp_bothL
     ·rw[wp_pickL rfl]
      simp only[opsOf,List.filterMap_cons,List.filterMap_nil,List.getElem?_toArray,List.getElem?_cons_zero,List.getElem?_cons_succ]
      simp(maxSteps:=1000000)(disch:=omega)only[push_cast,decide_not,decide_eq_true_eq,decide_eq_false_iff_not,bne_eq_false_iff_eq,beq_eq_false_iff_ne,gt_iff_lt,ne_eq,not_true_eq_false,not_false_eq_true,hal,h2,h3,h5,hb0,hb1,g0,g1,s0,s1,g0',s0',hlt,hltv,hx,hy,Prt.enc,wp_doneL,List.set_set,↓set_sorti,id_eq,↓WX,simprocAttr]
      apply wp_bothL
      ·rw[wp_slot rfl rfl zePart rfl (g0 _ _)]
       simp(maxSteps:=1000000)(disch:=omega)only[push_cast,decide_not,decide_eq_true_eq,decide_eq_false_iff_not,bne_eq_false_iff_eq,beq_eq_false_iff_ne,gt_iff_lt,ne_eq,not_true_eq_false,not_false_eq_true,hal,h2,h3,h5,hb0,hb1,g0,g1,s0,s1,g0',s0',hlt,hltv,hx,hy,Prt.enc,wp_doneL,List.set_set,↓set_sorti,id_eq,↓WX,simprocAttr]
       rw[wp_slot rfl rfl zePart rfl (g1 _ _)]
       rw[wp_pickL rfl]
       simp only[opsOf,List.filterMap_cons,List.filterMap_nil,List.getElem?_toArray,List.getElem?_cons_zero,List.getElem?_cons_succ]
       simp(maxSteps:=1000000)(disch:=omega)only[push_cast,decide_not,decide_eq_true_eq,decide_eq_false_iff_not,bne_eq_false_iff_eq,beq_eq_false_iff_ne,gt_iff_lt,ne_eq,not_true_eq_false,not_false_eq_true,hal,h2,h3,h5,hb0,hb1,g0,g1,s0,s1,g0',s0',hlt,hltv,hx,hy,Prt.enc,wp_doneL,List.set_set,↓set_sorti,id_eq,↓WX,simprocAttr]
       exact⟨rfl,rfl⟩
      ·rw[wp_slot rfl rfl zePart rfl (g1 _ _)]
       simp(maxSteps:=1000000)(disch:=omega)only[push_cast,decide_not,decide_eq_true_eq,decide_eq_false_iff_not,bne_eq_false_iff_eq,beq_eq_false_iff_ne,gt_iff_lt,ne_eq,not_true_eq_false,not_false_eq_true,hal,h2,h3,h5,hb0,hb1,g0,g1,s0,s1,g0',s0',hlt,hltv,hx,hy,Prt.enc,wp_doneL,List.set_set,↓set_sorti,id_eq,↓WX,simprocAttr]
       rw[wp_slot rfl rfl zePart rfl (g0 _ _)]
       rw[wp_pickL rfl]
       simp only[opsOf,List.filterMap_cons,List.filterMap_nil,List.getElem?_toArray,List.getElem?_cons_zero,List.getElem?_cons_succ]
       simp(maxSteps:=1000000)(disch:=omega)only[push_cast,decide_not,decide_eq_true_eq,decide_eq_false_iff_not,bne_eq_false_iff_eq,beq_eq_false_iff_ne,gt_iff_lt,ne_eq,not_true_eq_false,not_false_eq_true,hal,h2,h3,h5,hb0,hb1,g0,g1,s0,s1,g0',s0',hlt,hltv,hx,hy,Prt.enc,wp_doneL,List.set_set,↓set_sorti,id_eq,↓WX,simprocAttr]
      ·exact⟨rfl,rfl⟩
     ·apply wp_bothL
      ·rw[wp_slot rfl rfl zePart rfl (g0 _ _)]
       simp(maxSteps:=1000000)(disch:=omega)only[push_cast,decide_not,decide_eq_true_eq,decide_eq_false_iff_not,bne_eq_false_iff_eq,beq_eq_false_iff_ne,gt_iff_lt,ne_eq,not_true_eq_false,not_false_eq_true,hal,h2,h3,h5,hb0,hb1,g0,g1,s0,s1,g0',s0',hlt,hltv,hx,hy,Prt.enc,wp_doneL,List.set_set,↓set_sorti,id_eq,↓WX,simprocAttr]
       apply wp_bothL
       ·rw[wp_pickL rfl]
        simp only[opsOf,List.filterMap_cons,List.filterMap_nil,List.getElem?_toArray,List.getElem?_cons_zero,List.getElem?_cons_succ]
        simp(maxSteps:=1000000)(disch:=omega)only[push_cast,decide_not,decide_eq_true_eq,decide_eq_false_iff_not,bne_eq_false_iff_eq,beq_eq_false_iff_ne,gt_iff_lt,ne_eq,not_true_eq_false,not_false_eq_true,hal,h2,h3,h5,hb0,hb1,g0,g1,s0,s1,g0',s0',hlt,hltv,hx,hy,Prt.enc,wp_doneL,List.set_set,↓set_sorti,id_eq,↓WX,simprocAttr]
        rw[wp_slot rfl rfl zePart rfl (g1 _ _)]
        rw[wp_pickL rfl]
        simp only[opsOf,List.filterMap_cons,List.filterMap_nil,List.getElem?_toArray,List.getElem?_cons_zero,List.getElem?_cons_succ]
        simp(maxSteps:=1000000)(disch:=omega)only[push_cast,decide_not,decide_eq_true_eq,decide_eq_false_iff_not,bne_eq_false_iff_eq,beq_eq_false_iff_ne,gt_iff_lt,ne_eq,not_true_eq_false,not_false_eq_true,hal,h2,h3,h5,hb0,hb1,g0,g1,s0,s1,g0',s0',hlt,hltv,hx,hy,Prt.enc,wp_doneL,List.set_set,↓set_sorti,id_eq,↓WX,simprocAttr]
        exact⟨rfl,rfl⟩
       ·rw[wp_slot rfl rfl zePart rfl (g1 _ _)]
        simp(maxSteps:=1000000)(disch:=omega)only[push_cast,decide_not,decide_eq_true_eq,decide_eq_false_iff_not,bne_eq_false_iff_eq,beq_eq_false_iff_ne,gt_iff_lt,ne_eq,not_true_eq_false,not_false_eq_true,hal,h2,h3,h5,hb0,hb1,g0,g1,s0,s1,g0',s0',hlt,hltv,hx,hy,Prt.enc,wp_doneL,List.set_set,↓set_sorti,id_eq,↓WX,simprocAttr]
        apply wp_bothL
        ·rw[wp_pickL rfl]
         simp only[opsOf,List.filterMap_cons,List.filterMap_nil,List.getElem?_toArray,List.getElem?_cons_zero,List.getElem?_cons_succ]
         simp(maxSteps:=1000000)(disch:=omega)only[push_cast,decide_not,decide_eq_true_eq,decide_eq_false_iff_not,bne_eq_false_iff_eq,beq_eq_false_iff_ne,gt_iff_lt,ne_eq,not_true_eq_false,not_false_eq_true,hal,h2,h3,h5,hb0,hb1,g0,g1,s0,s1,g0',s0',hlt,hltv,hx,hy,Prt.enc,wp_doneL,List.set_set,↓set_sorti,id_eq,↓WX,simprocAttr]
         exact⟨rfl,rfl⟩
        ·rw[wp_pickL rfl]
         simp only[opsOf,List.filterMap_cons,List.filterMap_nil,List.getElem?_toArray,List.getElem?_cons_zero,List.getElem?_cons_succ]
         simp(maxSteps:=1000000)(disch:=omega)only[push_cast,decide_not,decide_eq_true_eq,decide_eq_false_iff_not,bne_eq_false_iff_eq,beq_eq_false_iff_ne,gt_iff_lt,ne_eq,not_true_eq_false,not_false_eq_true,hal,h2,h3,h5,hb0,hb1,g0,g1,s0,s1,g0',s0',hlt,hltv,hx,hy,Prt.enc,wp_doneL,List.set_set,↓set_sorti,id_eq,↓WX,simprocAttr]
        ·exact⟨rfl,rfl⟩
       ·exact⟨rfl,rfl⟩
      ·rw[wp_slot rfl rfl zePart rfl (g1 _ _)]
       simp(maxSteps:=1000000)(disch:=omega)only[push_cast,decide_not,decide_eq_true_eq,decide_eq_false_iff_not,bne_eq_false_iff_eq,beq_eq_false_iff_ne,gt_iff_lt,ne_eq,not_true_eq_false,not_false_eq_true,hal,h2,h3,h5,hb0,hb1,g0,g1,s0,s1,g0',s0',hlt,hltv,hx,hy,Prt.enc,wp_doneL,List.set_set,↓set_sorti,id_eq,↓WX,simprocAttr]
       apply wp_bothL
       ·rw[wp_pickL rfl]
        simp only[opsOf,List.filterMap_cons,List.filterMap_nil,List.getElem?_toArray,List.getElem?_cons_zero,List.getElem?_cons_succ]
        simp(maxSteps:=1000000)(disch:=omega)only[push_cast,decide_not,decide_eq_true_eq,decide_eq_false_iff_not,bne_eq_false_iff_eq,beq_eq_false_iff_ne,gt_iff_lt,ne_eq,not_true_eq_false,not_false_eq_true,hal,h2,h3,h5,hb0,hb1,g0,g1,s0,s1,g0',s0',hlt,hltv,hx,hy,Prt.enc,wp_doneL,List.set_set,↓set_sorti,id_eq,↓WX,simprocAttr]
        rw[wp_slot rfl rfl zePart rfl (g0 _ _)]
        rw[wp_pickL rfl]
        simp only[opsOf,List.filterMap_cons,List.filterMap_nil,List.getElem?_toArray,List.getElem?_cons_zero,List.getElem?_cons_succ]
        simp(maxSteps:=1000000)(disch:=omega)only[push_cast,decide_not,decide_eq_true_eq,decide_eq_false_iff_not,bne_eq_false_iff_eq,beq_eq_false_iff_ne,gt_iff_lt,ne_eq,not_true_eq_false,not_false_eq_true,hal,h2,h3,h5,hb0,hb1,g0,g1,s0,s1,g0',s0',hlt,hltv,hx,hy,Prt.enc,wp_doneL,List.set_set,↓set_sorti,id_eq,↓WX,simprocAttr]
        exact⟨rfl,rfl⟩
       ·rw[wp_slot rfl rfl zePart rfl (g0 _ _)]
        simp(maxSteps:=1000000)(disch:=omega)only[push_cast,decide_not,decide_eq_true_eq,decide_eq_false_iff_not,bne_eq_false_iff_eq,beq_eq_false_iff_ne,gt_iff_lt,ne_eq,not_true_eq_false,not_false_eq_true,hal,h2,h3,h5,hb0,hb1,g0,g1,s0,s1,g0',s0',hlt,hltv,hx,hy,Prt.enc,wp_doneL,List.set_set,↓set_sorti,id_eq,↓WX,simprocAttr]
        apply wp_bothL
        ·rw[wp_pickL rfl]
         simp only[opsOf,List.filterMap_cons,List.filterMap_nil,List.getElem?_toArray,List.getElem?_cons_zero,List.getElem?_cons_succ]
         simp(maxSteps:=1000000)(disch:=omega)only[push_cast,decide_not,decide_eq_true_eq,decide_eq_false_iff_not,bne_eq_false_iff_eq,beq_eq_false_iff_ne,gt_iff_lt,ne_eq,not_true_eq_false,not_false_eq_true,hal,h2,h3,h5,hb0,hb1,g0,g1,s0,s1,g0',s0',hlt,hltv,hx,hy,Prt.enc,wp_doneL,List.set_set,↓set_sorti,id_eq,↓WX,simprocAttr]
         exact⟨rfl,rfl⟩
        ·rw[wp_pickL rfl]
         simp only[opsOf,List.filterMap_cons,List.filterMap_nil,List.getElem?_toArray,List.getElem?_cons_zero,List.getElem?_cons_succ]
         simp(maxSteps:=1000000)(disch:=omega)only[push_cast,decide_not,decide_eq_true_eq,decide_eq_false_iff_not,bne_eq_false_iff_eq,beq_eq_false_iff_ne,gt_iff_lt,ne_eq,not_true_eq_false,not_false_eq_true,hal,h2,h3,h5,hb0,hb1,g0,g1,s0,s1,g0',s0',hlt,hltv,hx,hy,Prt.enc,wp_doneL,List.set_set,↓set_sorti,id_eq,↓WX,simprocAttr]
        ·exact⟨rfl,rfl⟩
       ·exact⟨rfl,rfl⟩
      ·exact⟨rfl,rfl⟩
     ·exact⟨rfl,rfl⟩
    ·apply wp_bothL
     ·rw[wp_slot rfl rfl zePart rfl (g0 _ _)]
      simp(maxSteps:=1000000)(disch:=omega)only[push_cast,decide_not,decide_eq_true_eq,decide_eq_false_iff_not,bne_eq_false_iff_eq,beq_eq_false_iff_ne,gt_iff_lt,ne_eq,not_true_eq_false,not_false_eq_true,hal,h2,h3,h5,hb0,hb1,g0,g1,s0,s1,g0',s0',hlt,hltv,hx,hy,Prt.enc,wp_doneL,List.set_set,↓set_sorti,id_eq,↓WX,simprocAttr]
      apply wp_bothL
      ·rw[wp_pickL rfl]
       simp only[opsOf,List.filterMap_cons,List.filterMap_nil,List.getElem?_toArray,List.getElem?_cons_zero,List.getElem?_cons_succ]
       simp(maxSteps:=1000000)(disch:=omega)only[push_cast,decide_not,decide_eq_true_eq,decide_eq_false_iff_not,bne_eq_false_iff_eq,beq_eq_false_iff_ne,gt_iff_lt,ne_eq,not_true_eq_false,not_false_eq_true,hal,h2,h3,h5,hb0,hb1,g0,g1,s0,s1,g0',s0',hlt,hltv,hx,hy,Prt.enc,wp_doneL,List.set_set,↓set_sorti,id_eq,↓WX,simprocAttr]
       apply wp_bothL
       ·rw[wp_pickL rfl]
        simp only[opsOf,List.filterMap_cons,List.filterMap_nil,List.getElem?_toArray,List.getElem?_cons_zero,List.getElem?_cons_succ]
        simp(maxSteps:=1000000)(disch:=omega)only[push_cast,decide_not,decide_eq_true_eq,decide_eq_false_iff_not,bne_eq_false_iff_eq,beq_eq_false_iff_ne,gt_iff_lt,ne_eq,not_true_eq_false,not_false_eq_true,hal,h2,h3,h5,hb0,hb1,g0,g1,s0,s1,g0',s0',hlt,hltv,hx,hy,Prt.enc,wp_doneL,List.set_set,↓set_sorti,id_eq,↓WX,simprocAttr]
        rw[wp_slot rfl rfl zePart rfl (g1 _ _)]
        rw[wp_pickL rfl]
        simp only[opsOf,List.filterMap_cons,List.filterMap_nil,List.getElem?_toArray,List.getElem?_cons_zero,List.getElem?_cons_succ]
        simp(maxSteps:=1000000)(disch:=omega)only[push_cast,decide_not,decide_eq_true_eq,decide_eq_false_iff_not,bne_eq_false_iff_eq,beq_eq_false_iff_ne,gt_iff_lt,ne_eq,not_true_eq_false,not_false_eq_true,hal,h2,h3,h5,hb0,hb1,g0,g1,s0,s1,g0',s0',hlt,hltv,hx,hy,Prt.enc,wp_doneL,List.set_set,↓set_sorti,id_eq,↓WX,simprocAttr]
        exact⟨rfl,rfl⟩
       ·rw[wp_slot rfl rfl zePart rfl (g1 _ _)]
        simp(maxSteps:=1000000)(disch:=omega)only[push_cast,decide_not,decide_eq_true_eq,decide_eq_false_iff_not,bne_eq_false_iff_eq,beq_eq_false_iff_ne,gt_iff_lt,ne_eq,not_true_eq_false,not_false_eq_true,hal,h2,h3,h5,hb0,hb1,g0,g1,s0,s1,g0',s0',hlt,hltv,hx,hy,Prt.enc,wp_doneL,List.set_set,↓set_sorti,id_eq,↓WX,simprocAttr]
        apply wp_bothL
        ·rw[wp_pickL rfl]
         simp only[opsOf,List.filterMap_cons,List.filterMap_nil,List.getElem?_toArray,List.getElem?_cons_zero,List.getElem?_cons_succ]
         simp(maxSteps:=1000000)(disch:=omega)only[push_cast,decide_not,decide_eq_true_eq,decide_eq_false_iff_not,bne_eq_false_iff_eq,beq_eq_false_iff_ne,gt_iff_lt,ne_eq,not_true_eq_false,not_false_eq_true,hal,h2,h3,h5,hb0,hb1,g0,g1,s0,s1,g0',s0',hlt,hltv,hx,hy,Prt.enc,wp_doneL,List.set_set,↓set_sorti,id_eq,↓WX,simprocAttr]
         exact⟨rfl,rfl⟩
        ·rw[wp_pickL rfl]
         simp only[opsOf,List.filterMap_cons,List.filterMap_nil,List.getElem?_toArray,List.getElem?_cons_zero,List.getElem?_cons_succ]
         simp(maxSteps:=1000000)(disch:=omega)only[push_cast,decide_not,decide_eq_true_eq,decide_eq_false_iff_not,bne_eq_false_iff_eq,beq_eq_false_iff_ne,gt_iff_lt,ne_eq,not_true_eq_false,not_false_eq_true,hal,h2,h3,h5,hb0,hb1,g0,g1,s0,s1,g0',s0',hlt,hltv,hx,hy,Prt.enc,wp_doneL,List.set_set,↓set_sorti,id_eq,↓WX,simprocAttr]
        ·exact⟨rfl,rfl⟩
       ·exact⟨rfl,rfl⟩
      ·rw[wp_slot rfl rfl zePart rfl (g1 _ _)]
       simp(maxSteps:=1000000)(disch:=omega)only[push_cast,decide_not,decide_eq_true_eq,decide_eq_false_iff_not,bne_eq_false_iff_eq,beq_eq_false_iff_ne,gt_iff_lt,ne_eq,not_true_eq_false,not_false_eq_true,hal,h2,h3,h5,hb0,hb1,g0,g1,s0,s1,g0',s0',hlt,hltv,hx,hy,Prt.enc,wp_doneL,List.set_set,↓set_sorti,id_eq,↓WX,simprocAttr]
       apply wp_bothL
       ·rw[wp_pickL rfl]
        simp only[opsOf,List.filterMap_cons,List.filterMap_nil,List.getElem?_toArray,List.getElem?_cons_zero,List.getElem?_cons_succ]
        simp(maxSteps:=1000000)(disch:=omega)only[push_cast,decide_not,decide_eq_true_eq,decide_eq_false_iff_not,bne_eq_false_iff_eq,beq_eq_false_iff_ne,gt_iff_lt,ne_eq,not_true_eq_false,not_false_eq_true,hal,h2,h3,h5,hb0,hb1,g0,g1,s0,s1,g0',s0',hlt,hltv,hx,hy,Prt.enc,wp_doneL,List.set_set,↓set_sorti,id_eq,↓WX,simprocAttr]
        apply wp_bothL
        ·rw[wp_pickL rfl]
         simp only[opsOf,List.filterMap_cons,List.filterMap_nil,List.getElem?_toArray,List.getElem?_cons_zero,List.getElem?_cons_succ]
         simp(maxSteps:=1000000)(disch:=omega)only[push_cast,decide_not,decide_eq_true_eq,decide_eq_false_iff_not,bne_eq_false_iff_eq,beq_eq_false_iff_ne,gt_iff_lt,ne_eq,not_true_eq_false,not_false_eq_true,hal,h2,h3,h5,hb0,hb1,g0,g1,s0,s1,g0',s0',hlt,hltv,hx,hy,Prt.enc,wp_doneL,List.set_set,↓set_sorti,id_eq,↓WX,simprocAttr]
         exact⟨rfl,rfl⟩
        ·rw[wp_pickL rfl]
         simp only[opsOf,List.filterMap_cons,List.filterMap_nil,List.getElem?_toArray,List.getElem?_cons_zero,List.getElem?_cons_succ]
         simp(maxSteps:=1000000)(disch:=omega)only[push_cast,decide_not,decide_eq_true_eq,decide_eq_false_iff_not,bne_eq_false_iff_eq,beq_eq_false_iff_ne,gt_iff_lt,ne_eq,not_true_eq_false,not_false_eq_true,hal,h2,h3,h5,hb0,hb1,g0,g1,s0,s1,g0',s0',hlt,hltv,hx,hy,Prt.enc,wp_doneL,List.set_set,↓set_sorti,id_eq,↓WX,simprocAttr]
        ·exact⟨rfl,rfl⟩
       ·rw[wp_pickL rfl]
        simp only[opsOf,List.filterMap_cons,List.filterMap_nil,List.getElem?_toArray,List.getElem?_cons_zero,List.getElem?_cons_succ]
        simp(maxSteps:=1000000)(disch:=omega)only[push_cast,decide_not,decide_eq_true_eq,decide_eq_false_iff_not,bne_eq_false_iff_eq,beq_eq_false_iff_ne,gt_iff_lt,ne_eq,not_true_eq_false,not_false_eq_true,hal,h2,h3,h5,hb0,hb1,g0,g1,s0,s1,g0',s0',hlt,hltv,hx,hy,Prt.enc,wp_doneL,List.set_set,↓set_sorti,id_eq,↓WX,simprocAttr]
       ·exact⟨rfl,rfl⟩
      ·exact⟨rfl,rfl⟩
     ·rw[wp_slot rfl rfl zePart rfl (g1 _ _)]
      simp(maxSteps:=1000000)(disch:=omega)only[push_cast,decide_not,decide_eq_true_eq,decide_eq_false_iff_not,bne_eq_false_iff_eq,beq_eq_false_iff_ne,gt_iff_lt,ne_eq,not_true_eq_false,not_false_eq_true,hal,h2,h3,h5,hb0,hb1,g0,g1,s0,s1,g0',s0',hlt,hltv,hx,hy,Prt.enc,wp_doneL,List.set_set,↓set_sorti,id_eq,↓WX,simprocAttr]
      apply wp_bothL
      ·rw[wp_pickL rfl]
       simp only[opsOf,List.filterMap_cons,List.filterMap_nil,List.getElem?_toArray,List.getElem?_cons_zero,List.getElem?_cons_succ]
       simp(maxSteps:=1000000)(disch:=omega)only[push_cast,decide_not,decide_eq_true_eq,decide_eq_false_iff_not,bne_eq_false_iff_eq,beq_eq_false_iff_ne,gt_iff_lt,ne_eq,not_true_eq_false,not_false_eq_true,hal,h2,h3,h5,hb0,hb1,g0,g1,s0,s1,g0',s0',hlt,hltv,hx,hy,Prt.enc,wp_doneL,List.set_set,↓set_sorti,id_eq,↓WX,simprocAttr]
       apply wp_bothL
       ·rw[wp_pickL rfl]
        simp only[opsOf,List.filterMap_cons,List.filterMap_nil,List.getElem?_toArray,List.getElem?_cons_zero,List.getElem?_cons_succ]
        simp(maxSteps:=1000000)(disch:=omega)only[push_cast,decide_not,decide_eq_true_eq,decide_eq_false_iff_not,bne_eq_false_iff_eq,beq_eq_false_iff_ne,gt_iff_lt,ne_eq,not_true_eq_false,not_false_eq_true,hal,h2,h3,h5,hb0,hb1,g0,g1,s0,s1,g0',s0',hlt,hltv,hx,hy,Prt.enc,wp_doneL,List.set_set,↓set_sorti,id_eq,↓WX,simprocAttr]
        rw[wp_slot rfl rfl zePart rfl (g0 _ _)]
        rw[wp_pickL rfl]
        simp only[opsOf,List.filterMap_cons,List.filterMap_nil,List.getElem?_toArray,List.getElem?_cons_zero,List.getElem?_cons_succ]
        simp(maxSteps:=1000000)(disch:=omega)only[push_cast,decide_not,decide_eq_true_eq,decide_eq_false_iff_not,bne_eq_false_iff_eq,beq_eq_false_iff_ne,gt_iff_lt,ne_eq,not_true_eq_false,not_false_eq_true,hal,h2,h3,h5,hb0,hb1,g0,g1,s0,s1,g0',s0',hlt,hltv,hx,hy,Prt.enc,wp_doneL,List.set_set,↓set_sorti,id_eq,↓WX,simprocAttr]
        exact⟨rfl,rfl⟩
       ·rw[wp_slot rfl rfl zePart rfl (g0 _ _)]
        simp(maxSteps:=1000000)(disch:=omega)only[push_cast,decide_not,decide_eq_true_eq,decide_eq_false_iff_not,bne_eq_false_iff_eq,beq_eq_false_iff_ne,gt_iff_lt,ne_eq,not_true_eq_false,not_false_eq_true,hal,h2,h3,h5,hb0,hb1,g0,g1,s0,s1,g0',s0',hlt,hltv,hx,hy,Prt.enc,wp_doneL,List.set_set,↓set_sorti,id_eq,↓WX,simprocAttr]
        apply wp_bothL
        ·rw[wp_pickL rfl]
         simp only[opsOf,List.filterMap_cons,List.filterMap_nil,List.getElem?_toArray,List.getElem?_cons_zero,List.getElem?_cons_succ]
         simp(maxSteps:=1000000)(disch:=omega)only[push_cast,decide_not,decide_eq_true_eq,decide_eq_false_iff_not,bne_eq_false_iff_eq,beq_eq_false_iff_ne,gt_iff_lt,ne_eq,not_true_eq_false,not_false_eq_true,hal,h2,h3,h5,hb0,hb1,g0,g1,s0,s1,g0',s0',hlt,hltv,hx,hy,Prt.enc,wp_doneL,List.set_set,↓set_sorti,id_eq,↓WX,simprocAttr]
         exact⟨rfl,rfl⟩
        ·rw[wp_pickL rfl]
         simp only[opsOf,List.filterMap_cons,List.filterMap_nil,List.getElem?_toArray,List.getElem?_cons_zero,List.getElem?_cons_succ]
         simp(maxSteps:=1000000)(disch:=omega)only[push_cast,decide_not,decide_eq_true_eq,decide_eq_false_iff_not,bne_eq_false_iff_eq,beq_eq_false_iff_ne,gt_iff_lt,ne_eq,not_true_eq_false,not_false_eq_true,hal,h2,h3,h5,hb0,hb1,g0,g1,s0,s1,g0',s0',hlt,hltv,hx,hy,Prt.enc,wp_doneL,List.set_set,↓set_sorti,id_eq,↓WX,simprocAttr]
        ·exact⟨rfl,rfl⟩
       ·exact⟨rfl,rfl⟩
      ·rw[wp_slot rfl rfl zePart rfl (g0 _ _)]
       simp(maxSteps:=1000000)(disch:=omega)only[push_cast,decide_not,decide_eq_true_eq,decide_eq_false_iff_not,bne_eq_false_iff_eq,beq_eq_false_iff_ne,gt_iff_lt,ne_eq,not_true_eq_false,not_false_eq_true,hal,h2,h3,h5,hb0,hb1,g0,g1,s0,s1,g0',s0',hlt,hltv,hx,hy,Prt.enc,wp_doneL,List.set_set,↓set_sorti,id_eq,↓WX,simprocAttr]
       apply wp_bothL
       ·rw[wp_pickL rfl]
        simp only[opsOf,List.filterMap_cons,List.filterMap_nil,List.getElem?_toArray,List.getElem?_cons_zero,List.getElem?_cons_succ]
        simp(maxSteps:=1000000)(disch:=omega)only[push_cast,decide_not,decide_eq_true_eq,decide_eq_false_iff_not,bne_eq_false_iff_eq,beq_eq_false_iff_ne,gt_iff_lt,ne_eq,not_true_eq_false,not_false_eq_true,hal,h2,h3,h5,hb0,hb1,g0,g1,s0,s1,g0',s0',hlt,hltv,hx,hy,Prt.enc,wp_doneL,List.set_set,↓set_sorti,id_eq,↓WX,simprocAttr]
        apply wp_bothL
        ·rw[wp_pickL rfl]
         simp only[opsOf,List.filterMap_cons,List.filterMap_nil,List.getElem?_toArray,List.getElem?_cons_zero,List.getElem?_cons_succ]
         simp(maxSteps:=1000000)(disch:=omega)only[push_cast,decide_not,decide_eq_true_eq,decide_eq_false_iff_not,bne_eq_false_iff_eq,beq_eq_false_iff_ne,gt_iff_lt,ne_eq,not_true_eq_false,not_false_eq_true,hal,h2,h3,h5,hb0,hb1,g0,g1,s0,s1,g0',s0',hlt,hltv,hx,hy,Prt.enc,wp_doneL,List.set_set,↓set_sorti,id_eq,↓WX,simprocAttr]
         exact⟨rfl,rfl⟩
        ·rw[wp_pickL rfl]
         simp only[opsOf,List.filterMap_cons,List.filterMap_nil,List.getElem?_toArray,List.getElem?_cons_zero,List.getElem?_cons_succ]
         simp(maxSteps:=1000000)(disch:=omega)only[push_cast,decide_not,decide_eq_true_eq,decide_eq_false_iff_not,bne_eq_false_iff_eq,beq_eq_false_iff_ne,gt_iff_lt,ne_eq,not_true_eq_false,not_false_eq_true,hal,h2,h3,h5,hb0,hb1,g0,g1,s0,s1,g0',s0',hlt,hltv,hx,hy,Prt.enc,wp_doneL,List.set_set,↓set_sorti,id_eq,↓WX,simprocAttr]
        ·exact⟨rfl,rfl⟩
       ·rw[wp_pickL rfl]
        simp only[opsOf,List.filterMap_cons,List.filterMap_nil,List.getElem?_toArray,List.getElem?_cons_zero,List.getElem?_cons_succ]
        simp(maxSteps:=1000000)(disch:=omega)only[push_cast,decide_not,decide_eq_true_eq,decide_eq_false_iff_not,bne_eq_false_iff_eq,beq_eq_false_iff_ne,gt_iff_lt,ne_eq,not_true_eq_false,not_false_eq_true,hal,h2,h3,h5,hb0,hb1,g0,g1,s0,s1,g0',s0',hlt,hltv,hx,hy,Prt.enc,wp_doneL,List.set_set,↓set_sorti,id_eq,↓WX,simprocAttr]
       ·exact⟨rfl,rfl⟩
      ·exact⟨rfl,rfl⟩
     ·exact⟨rfl,rfl⟩
    ·exact⟨rfl,rfl⟩
   ·apply wp_bothL
    ·rw[wp_slot rfl rfl zePart rfl (g0 _ _)]
     simp(maxSteps:=1000000)(disch:=omega)only[push_cast,decide_not,decide_eq_true_eq,decide_eq_false_iff_not,bne_eq_false_iff_eq,beq_eq_false_iff_ne,gt_iff_lt,ne_eq,not_true_eq_false,not_false_eq_true,hal,h2,h3,h5,hb0,hb1,g0,g1,s0,s1,g0',s0',hlt,hltv,hx,hy,Prt.enc,wp_doneL,List.set_set,↓set_sorti,id_eq,↓WX,simprocAttr]
     apply wp_bothL
     ·rw[wp_pickL rfl]
      simp only[opsOf,List.filterMap_cons,List.filterMap_nil,List.getElem?_toArray,List.getElem?_cons_zero,List.getElem?_cons_succ]
      simp(maxSteps:=1000000)(disch:=omega)only[push_cast,decide_not,decide_eq_true_eq,decide_eq_false_iff_not,bne_eq_false_iff_eq,beq_eq_false_iff_ne,gt_iff_lt,ne_eq,not_true_eq_false,not_false_eq_true,hal,h2,h3,h5,hb0,hb1,g0,g1,s0,s1,g0',s0',hlt,hltv,hx,hy,Prt.enc,wp_doneL,List.set_set,↓set_sorti,id_eq,↓WX,simprocAttr]
      apply wp_bothL
      ·rw[wp_pickL rfl]
       simp only[opsOf,List.filterMap_cons,List.filterMap_nil,List.getElem?_toArray,List.getElem?_cons_zero,List.getElem?_cons_succ]
       simp(maxSteps:=1000000)(disch:=omega)only[push_cast,decide_not,decide_eq_true_eq,decide_eq_false_iff_not,bne_eq_false_iff_eq,beq_eq_false_iff_ne,gt_iff_lt,ne_eq,not_true_eq_false,not_false_eq_true,hal,h2,h3,h5,hb0,hb1,g0,g1,s0,s1,g0',s0',hlt,hltv,hx,hy,Prt.enc,wp_doneL,List.set_set,↓set_sorti,id_eq,↓WX,simprocAttr]
       apply wp_bothL
       ·rw[wp_pickL rfl]
        simp only[opsOf,List.filterMap_cons,List.filterMap_nil,List.getElem?_toArray,List.getElem?_cons_zero,List.getElem?_cons_succ]
        simp(maxSteps:=1000000)(disch:=omega)only[push_cast,decide_not,decide_eq_true_eq,decide_eq_false_iff_not,bne_eq_false_iff_eq,beq_eq_false_iff_ne,gt_iff_lt,ne_eq,not_true_eq_false,not_false_eq_true,hal,h2,h3,h5,hb0,hb1,g0,g1,s0,s1,g0',s0',hlt,hltv,hx,hy,Prt.enc,wp_doneL,List.set_set,↓set_sorti,id_eq,↓WX,simprocAttr]
        rw[wp_slot rfl rfl zePart rfl (g1 _ _)]
        rw[wp_pickL rfl]
        simp only[opsOf,List.filterMap_cons,List.filterMap_nil,List.getElem?_toArray,List.getElem?_cons_zero,List.getElem?_cons_succ]
        simp(maxSteps:=1000000)(disch:=omega)only[push_cast,decide_not,decide_eq_true_eq,decide_eq_false_iff_not,bne_eq_false_iff_eq,beq_eq_false_iff_ne,gt_iff_lt,ne_eq,not_true_eq_false,not_false_eq_true,hal,h2,h3,h5,hb0,hb1,g0,g1,s0,s1,g0',s0',hlt,hltv,hx,hy,Prt.enc,wp_doneL,List.set_set,↓set_sorti,id_eq,↓WX,simprocAttr]
        exact⟨rfl,rfl⟩
       ·rw[wp_slot rfl rfl zePart rfl (g1 _ _)]
        simp(maxSteps:=1000000)(disch:=omega)only[push_cast,decide_not,decide_eq_true_eq,decide_eq_false_iff_not,bne_eq_false_iff_eq,beq_eq_false_iff_ne,gt_iff_lt,ne_eq,not_true_eq_false,not_false_eq_true,hal,h2,h3,h5,hb0,hb1,g0,g1,s0,s1,g0',s0',hlt,hltv,hx,hy,Prt.enc,wp_doneL,List.set_set,↓set_sorti,id_eq,↓WX,simprocAttr]
        apply wp_bothL
        ·rw[wp_pickL rfl]
         simp only[opsOf,List.filterMap_cons,List.filterMap_nil,List.getElem?_toArray,List.getElem?_cons_zero,List.getElem?_cons_succ]
         simp(maxSteps:=1000000)(disch:=omega)only[push_cast,decide_not,decide_eq_true_eq,decide_eq_false_iff_not,bne_eq_false_iff_eq,beq_eq_false_iff_ne,gt_iff_lt,ne_eq,not_true_eq_false,not_false_eq_true,hal,h2,h3,h5,hb0,hb1,g0,g1,s0,s1,g0',s0',hlt,hltv,hx,hy,Prt.enc,wp_doneL,List.set_set,↓set_sorti,id_eq,↓WX,simprocAttr]
         exact⟨rfl,rfl⟩
        ·rw[wp_pickL rfl]
         simp only[opsOf,List.filterMap_cons,List.filterMap_nil,List.getElem?_toArray,List.getElem?_cons_zero,List.getElem?_cons_succ]
         simp(maxSteps:=1000000)(disch:=omega)only[push_cast,decide_not,decide_eq_true_eq,decide_eq_false_iff_not,bne_eq_false_iff_eq,beq_eq_false_iff_ne,gt_iff_lt,ne_eq,not_true_eq_false,not_false_eq_true,hal,h2,h3,h5,hb0,hb1,g0,g1,s0,s1,g0',s0',hlt,hltv,hx,hy,Prt.enc,wp_doneL,List.set_set,↓set_sorti,id_eq,↓WX,simprocAttr]
        ·exact⟨rfl,rfl⟩
       ·exact⟨rfl,rfl⟩
      ·rw[wp_slot rfl rfl zePart rfl (g1 _ _)]
       simp(maxSteps:=1000000)(disch:=omega)only[push_cast,decide_not,decide_eq_true_eq,decide_eq_false_iff_not,bne_eq_false_iff_eq,beq_eq_false_iff_ne,gt_iff_lt,ne_eq,not_true_eq_false,not_false_eq_true,hal,h2,h3,h5,hb0,hb1,g0,g1,s0,s1,g0',s0',hlt,hltv,hx,hy,Prt.enc,wp_doneL,List.set_set,↓set_sorti,id_eq,↓WX,simprocAttr]
       apply wp_bothL
       ·rw[wp_pickL rfl]
        simp only[opsOf,List.filterMap_cons,List.filterMap_nil,List.getElem?_toArray,List.getElem?_cons_zero,List.getElem?_cons_succ]
        simp(maxSteps:=1000000)(disch:=omega)only[push_cast,decide_not,decide_eq_true_eq,decide_eq_false_iff_not,bne_eq_false_iff_eq,beq_eq_false_iff_ne,gt_iff_lt,ne_eq,not_true_eq_false,not_false_eq_true,hal,h2,h3,h5,hb0,hb1,g0,g1,s0,s1,g0',s0',hlt,hltv,hx,hy,Prt.enc,wp_doneL,List.set_set,↓set_sorti,id_eq,↓WX,simprocAttr]
        apply wp_bothL
        ·rw[wp_pickL rfl]
         simp only[opsOf,List.filterMap_cons,List.filterMap_nil,List.getElem?_toArray,List.getElem?_cons_zero,List.getElem?_cons_succ]
         simp(maxSteps:=1000000)(disch:=omega)only[push_cast,decide_not,decide_eq_true_eq,decide_eq_false_iff_not,bne_eq_false_iff_eq,beq_eq_false_iff_ne,gt_iff_lt,ne_eq,not_true_eq_false,not_false_eq_true,hal,h2,h3,h5,hb0,hb1,g0,g1,s0,s1,g0',s0',hlt,hltv,hx,hy,Prt.enc,wp_doneL,List.set_set,↓set_sorti,id_eq,↓WX,simprocAttr]
         exact⟨rfl,rfl⟩
        ·rw[wp_pickL rfl]
         simp only[opsOf,List.filterMap_cons,List.filterMap_nil,List.getElem?_toArray,List.getElem?_cons_zero,List.getElem?_cons_succ]
         simp(maxSteps:=1000000)(disch:=omega)only[push_cast,decide_not,decide_eq_true_eq,decide_eq_false_iff_not,bne_eq_false_iff_eq,beq_eq_false_iff_ne,gt_iff_lt,ne_eq,not_true_eq_false,not_false_eq_true,hal,h2,h3,h5,hb0,hb1,g0,g1,s0,s1,g0',s0',hlt,hltv,hx,hy,Prt.enc,wp_doneL,List.set_set,↓set_sorti,id_eq,↓WX,simprocAttr]
        ·exact⟨rfl,rfl⟩
       ·rw[wp_pickL rfl]
        simp only[opsOf,List.filterMap_cons,List.filterMap_nil,List.getElem?_toArray,List.getElem?_cons_zero,List.getElem?_cons_succ]
        simp(maxSteps:=1000000)(disch:=omega)only[push_cast,decide_not,decide_eq_true_eq,decide_eq_false_iff_not,bne_eq_false_iff_eq,beq_eq_false_iff_ne,gt_iff_lt,ne_eq,not_true_eq_false,not_false_eq_true,hal,h2,h3,h5,hb0,hb1,g0,g1,s0,s1,g0',s0',hlt,hltv,hx,hy,Prt.enc,wp_doneL,List.set_set,↓set_sorti,id_eq,↓WX,simprocAttr]
       ·exact⟨rfl,rfl⟩
      ·exact⟨rfl,rfl⟩
     ·rw[wp_slot rfl rfl zePart rfl (g1 _ _)]
      simp(maxSteps:=1000000)(disch:=omega)only[push_cast,decide_not,decide_eq_true_eq,decide_eq_false_iff_not,bne_eq_false_iff_eq,beq_eq_false_iff_ne,gt_iff_lt,ne_eq,not_true_eq_false,not_false_eq_true,hal,h2,h3,h5,hb0,hb1,g0,g1,s0,s1,g0',s0',hlt,hltv,hx,hy,Prt.enc,wp_doneL,List.set_set,↓set_sorti,id_eq,↓WX,simprocAttr]
      apply wp_bothL
      ·rw[wp_pickL rfl]
       simp only[opsOf,List.filterMap_cons,List.filterMap_nil,List.getElem?_toArray,List.getElem?_cons_zero,List.getElem?_cons_succ]
       simp(maxSteps:=1000000)(disch:=omega)only[push_cast,decide_not,decide_eq_true_eq,decide_eq_false_iff_not,bne_eq_false_iff_eq,beq_eq_false_iff_ne,gt_iff_lt,ne_eq,not_true_eq_false,not_false_eq_true,hal,h2,h3,h5,hb0,hb1,g0,g1,s0,s1,g0',s0',hlt,hltv,hx,hy,Prt.enc,wp_doneL,List.set_set,↓set_sorti,id_eq,↓WX,simprocAttr]
       apply wp_bothL
       ·rw[wp_pickL rfl]
        simp only[opsOf,List.filterMap_cons,List.filterMap_nil,List.getElem?_toArray,List.getElem?_cons_zero,List.getElem?_cons_succ]
        simp(maxSteps:=1000000)(disch:=omega)only[push_cast,decide_not,decide_eq_true_eq,decide_eq_false_iff_not,bne_eq_false_iff_eq,beq_eq_false_iff_ne,gt_iff_lt,ne_eq,not_true_eq_false,not_false_eq_true,hal,h2,h3,h5,hb0,hb1,g0,g1,s0,s1,g0',s0',hlt,hltv,hx,hy,Prt.enc,wp_doneL,List.set_set,↓set_sorti,id_eq,↓WX,simprocAttr]
        apply wp_bothL
        ·rw[wp_pickL rfl]
         simp only[opsOf,List.filterMap_cons,List.filterMap_nil,List.getElem?_toArray,List.getElem?_cons_zero,List.getElem?_cons_succ]
         simp(maxSteps:=1000000)(disch:=omega)only[push_cast,decide_not,decide_eq_true_eq,decide_eq_false_iff_not,bne_eq_false_iff_eq,beq_eq_false_iff_ne,gt_iff_lt,ne_eq,not_true_eq_false,not_false_eq_true,hal,h2,h3,h5,hb0,hb1,g0,g1,s0,s1,g0',s0',hlt,hltv,hx,hy,Prt.enc,wp_doneL,List.set_set,↓set_sorti,id_eq,↓WX,simprocAttr]
         exact⟨rfl,rfl⟩
        ·rw[wp_pickL rfl]
         simp only[opsOf,List.filterMap_cons,List.filterMap_nil,List.getElem?_toArray,List.getElem?_cons_zero,List.getElem?_cons_succ]
         simp(maxSteps:=1000000)(disch:=omega)only[push_cast,decide_not,decide_eq_true_eq,decide_eq_false_iff_not,bne_eq_false_iff_eq,beq_eq_false_iff_ne,gt_iff_lt,ne_eq,not_true_eq_false,not_false_eq_true,hal,h2,h3,h5,hb0,hb1,g0,g1,s0,s1,g0',s0',hlt,hltv,hx,hy,Prt.enc,wp_doneL,List.set_set,↓set_sorti,id_eq,↓WX,simprocAttr]
        ·exact⟨rfl,rfl⟩
       ·rw[wp_pickL rfl]
        simp only[opsOf,List.filterMap_cons,List.filterMap_nil,List.getElem?_toArray,List.getElem?_cons_zero,List.getElem?_cons_succ]
        simp(maxSteps:=1000000)(disch:=omega)only[push_cast,decide_not,decide_eq_true_eq,decide_eq_false_iff_not,bne_eq_false_iff_eq,beq_eq_false_iff_ne,gt_iff_lt,ne_eq,not_true_eq_false,not_false_eq_true,hal,h2,h3,h5,hb0,hb1,g0,g1,s0,s1,g0',s0',hlt,hltv,hx,hy,Prt.enc,wp_doneL,List.set_set,↓set_sorti,id_eq,↓WX,simprocAttr]
       ·exact⟨rfl,rfl⟩
      ·rw[wp_pickL rfl]
       simp only[opsOf,List.filterMap_cons,List.filterMap_nil,List.getElem?_toArray,List.getElem?_cons_zero,List.getElem?_cons_succ]
       simp(maxSteps:=1000000)(disch:=omega)only[push_cast,decide_not,decide_eq_true_eq,decide_eq_false_iff_not,bne_eq_false_iff_eq,beq_eq_false_iff_ne,gt_iff_lt,ne_eq,not_true_eq_false,not_false_eq_true,hal,h2,h3,h5,hb0,hb1,g0,g1,s0,s1,g0',s0',hlt,hltv,hx,hy,Prt.enc,wp_doneL,List.set_set,↓set_sorti,id_eq,↓WX,simprocAttr]
      ·exact⟨rfl,rfl⟩
     ·exact⟨rfl,rfl⟩
    ·rw[wp_slot rfl rfl zePart rfl (g1 _ _)]
     simp(maxSteps:=1000000)(disch:=omega)only[push_cast,decide_not,decide_eq_true_eq,decide_eq_false_iff_not,bne_eq_false_iff_eq,beq_eq_false_iff_ne,gt_iff_lt,ne_eq,not_true_eq_false,not_false_eq_true,hal,h2,h3,h5,hb0,hb1,g0,g1,s0,s1,g0',s0',hlt,hltv,hx,hy,Prt.enc,wp_doneL,List.set_set,↓set_sorti,id_eq,↓WX,simprocAttr]
     apply wp_bothL
     ·rw[wp_pickL rfl]
      simp only[opsOf,List.filterMap_cons,List.filterMap_nil,List.getElem?_toArray,List.getElem?_cons_zero,List.getElem?_cons_succ]
      simp(maxSteps:=1000000)(disch:=omega)only[push_cast,decide_not,decide_eq_true_eq,decide_eq_false_iff_not,bne_eq_false_iff_eq,beq_eq_false_iff_ne,gt_iff_lt,ne_eq,not_true_eq_false,not_false_eq_true,hal,h2,h3,h5,hb0,hb1,g0,g1,s0,s1,g0',s0',hlt,hltv,hx,hy,Prt.enc,wp_doneL,List.set_set,↓set_sorti,id_eq,↓WX,simprocAttr]
      apply wp_bothL
      ·rw[wp_pickL rfl]
       simp only[opsOf,List.filterMap_cons,List.filterMap_nil,List.getElem?_toArray,List.getElem?_cons_zero,List.getElem?_cons_succ]
       simp(maxSteps:=1000000)(disch:=omega)only[push_cast,decide_not,decide_eq_true_eq,decide_eq_false_iff_not,bne_eq_false_iff_eq,beq_eq_false_iff_ne,gt_iff_lt,ne_eq,not_true_eq_false,not_false_eq_true,hal,h2,h3,h5,hb0,hb1,g0,g1,s0,s1,g0',s0',hlt,hltv,hx,hy,Prt.enc,wp_doneL,List.set_set,↓set_sorti,id_eq,↓WX,simprocAttr]
       apply wp_bothL
       ·rw[wp_pickL rfl]
        simp only[opsOf,List.filterMap_cons,List.filterMap_nil,List.getElem?_toArray,List.getElem?_cons_zero,List.getElem?_cons_succ]
        simp(maxSteps:=1000000)(disch:=omega)only[push_cast,decide_not,decide_eq_true_eq,decide_eq_false_iff_not,bne_eq_false_iff_eq,beq_eq_false_iff_ne,gt_iff_lt,ne_eq,not_true_eq_false,not_false_eq_true,hal,h2,h3,h5,hb0,hb1,g0,g1,s0,s1,g0',s0',hlt,hltv,hx,hy,Prt.enc,wp_doneL,List.set_set,↓set_sorti,id_eq,↓WX,simprocAttr]
        rw[wp_slot rfl rfl zePart rfl (g0 _ _)]
        rw[wp_pickL rfl]
        simp only[opsOf,List.filterMap_cons,List.filterMap_nil,List.getElem?_toArray,List.getElem?_cons_zero,List.getElem?_cons_succ]
        simp(maxSteps:=1000000)(disch:=omega)only[push_cast,decide_not,decide_eq_true_eq,decide_eq_false_iff_not,bne_eq_false_iff_eq,beq_eq_false_iff_ne,gt_iff_lt,ne_eq,not_true_eq_false,not_false_eq_true,hal,h2,h3,h5,hb0,hb1,g0,g1,s0,s1,g0',s0',hlt,hltv,hx,hy,Prt.enc,wp_doneL,List.set_set,↓set_sorti,id_eq,↓WX,simprocAttr]
        exact⟨rfl,rfl⟩
       ·rw[wp_slot rfl rfl zePart rfl (g0 _ _)]
        simp(maxSteps:=1000000)(disch:=omega)only[push_cast,decide_not,decide_eq_true_eq,decide_eq_false_iff_not,bne_eq_false_iff_eq,beq_eq_false_iff_ne,gt_iff_lt,ne_eq,not_true_eq_false,not_false_eq_true,hal,h2,h3,h5,hb0,hb1,g0,g1,s0,s1,g0',s0',hlt,hltv,hx,hy,Prt.enc,wp_doneL,List.set_set,↓set_sorti,id_eq,↓WX,simprocAttr]
        apply wp_bothL
        ·rw[wp_pickL rfl]
         simp only[opsOf,List.filterMap_cons,List.filterMap_nil,List.getElem?_toArray,List.getElem?_cons_zero,List.getElem?_cons_succ]
         simp(maxSteps:=1000000)(disch:=omega)only[push_cast,decide_not,decide_eq_true_eq,decide_eq_false_iff_not,bne_eq_false_iff_eq,beq_eq_false_iff_ne,gt_iff_lt,ne_eq,not_true_eq_false,not_false_eq_true,hal,h2,h3,h5,hb0,hb1,g0,g1,s0,s1,g0',s0',hlt,hltv,hx,hy,Prt.enc,wp_doneL,List.set_set,↓set_sorti,id_eq,↓WX,simprocAttr]
         exact⟨rfl,rfl⟩
        ·rw[wp_pickL rfl]
         simp only[opsOf,List.filterMap_cons,List.filterMap_nil,List.getElem?_toArray,List.getElem?_cons_zero,List.getElem?_cons_succ]
         simp(maxSteps:=1000000)(disch:=omega)only[push_cast,decide_not,decide_eq_true_eq,decide_eq_false_iff_not,bne_eq_false_iff_eq,beq_eq_false_iff_ne,gt_iff_lt,ne_eq,not_true_eq_false,not_false_eq_true,hal,h2,h3,h5,hb0,hb1,g0,g1,s0,s1,g0',s0',hlt,hltv,hx,hy,Prt.enc,wp_doneL,List.set_set,↓set_sorti,id_eq,↓WX,simprocAttr]
        ·exact⟨rfl,rfl⟩
       ·exact⟨rfl,rfl⟩
      ·rw[wp_slot rfl rfl zePart rfl (g0 _ _)]
       simp(maxSteps:=1000000)(disch:=omega)only[push_cast,decide_not,decide_eq_true_eq,decide_eq_false_iff_not,bne_eq_false_iff_eq,beq_eq_false_iff_ne,gt_iff_lt,ne_eq,not_true_eq_false,not_false_eq_true,hal,h2,h3,h5,hb0,hb1,g0,g1,s0,s1,g0',s0',hlt,hltv,hx,hy,Prt.enc,wp_doneL,List.set_set,↓set_sorti,id_eq,↓WX,simprocAttr]
       apply wp_bothL
       ·rw[wp_pickL rfl]
        simp only[opsOf,List.filterMap_cons,List.filterMap_nil,List.getElem?_toArray,List.getElem?_cons_zero,List.getElem?_cons_succ]
        simp(maxSteps:=1000000)(disch:=omega)only[push_cast,decide_not,decide_eq_true_eq,decide_eq_false_iff_not,bne_eq_false_iff_eq,beq_eq_false_iff_ne,gt_iff_lt,ne_eq,not_true_eq_false,not_false_eq_true,hal,h2,h3,h5,hb0,hb1,g0,g1,s0,s1,g0',s0',hlt,hltv,hx,hy,Prt.enc,wp_doneL,List.set_set,↓set_sorti,id_eq,↓WX,simprocAttr]
        apply wp_bothL
        ·rw[wp_pickL rfl]
         simp only[opsOf,List.filterMap_cons,List.filterMap_nil,List.getElem?_toArray,List.getElem?_cons_zero,List.getElem?_cons_succ]
         simp(maxSteps:=1000000)(disch:=omega)only[push_cast,decide_not,decide_eq_true_eq,decide_eq_false_iff_not,bne_eq_false_iff_eq,beq_eq_false_iff_ne,gt_iff_lt,ne_eq,not_true_eq_false,not_false_eq_true,hal,h2,h3,h5,hb0,hb1,g0,g1,s0,s1,g0',s0',hlt,hltv,hx,hy,Prt.enc,wp_doneL,List.set_set,↓set_sorti,id_eq,↓WX,simprocAttr]
         exact⟨rfl,rfl⟩
        ·rw[wp_pickL rfl]
         simp only[opsOf,List.filterMap_cons,List.filterMap_nil,List.getElem?_toArray,List.getElem?_cons_zero,List.getElem?_cons_succ]
         simp(maxSteps:=1000000)(disch:=omega)only[push_cast,decide_not,decide_eq_true_eq,decide_eq_false_iff_not,bne_eq_false_iff_eq,beq_eq_false_iff_ne,gt_iff_lt,ne_eq,not_true_eq_false,not_false_eq_true,hal,h2,h3,h5,hb0,hb1,g0,g1,s0,s1,g0',s0',hlt,hltv,hx,hy,Prt.enc,wp_doneL,List.set_set,↓set_sorti,id_eq,↓WX,simprocAttr]
        ·exact⟨rfl,rfl⟩
       ·rw[wp_pickL rfl]
        simp only[opsOf,List.filterMap_cons,List.filterMap_nil,List.getElem?_toArray,List.getElem?_cons_zero,List.getElem?_cons_succ]
        simp(maxSteps:=1000000)(disch:=omega)only[push_cast,decide_not,decide_eq_true_eq,decide_eq_false_iff_not,bne_eq_false_iff_eq,beq_eq_false_iff_ne,gt_iff_lt,ne_eq,not_true_eq_false,not_false_eq_true,hal,h2,h3,h5,hb0,hb1,g0,g1,s0,s1,g0',s0',hlt,hltv,hx,hy,Prt.enc,wp_doneL,List.set_set,↓set_sorti,id_eq,↓WX,simprocAttr]
       ·exact⟨rfl,rfl⟩
      ·exact⟨rfl,rfl⟩
     ·rw[wp_slot rfl rfl zePart rfl (g0 _ _)]
      simp(maxSteps:=1000000)(disch:=omega)only[push_cast,decide_not,decide_eq_true_eq,decide_eq_false_iff_not,bne_eq_false_iff_eq,beq_eq_false_iff_ne,gt_iff_lt,ne_eq,not_true_eq_false,not_false_eq_true,hal,h2,h3,h5,hb0,hb1,g0,g1,s0,s1,g0',s0',hlt,hltv,hx,hy,Prt.enc,wp_doneL,List.set_set,↓set_sorti,id_eq,↓WX,simprocAttr]
      apply wp_bothL
      ·rw[wp_pickL rfl]
       simp only[opsOf,List.filterMap_cons,List.filterMap_nil,List.getElem?_toArray,List.getElem?_cons_zero,List.getElem?_cons_succ]
       simp(maxSteps:=1000000)(disch:=omega)only[push_cast,decide_not,decide_eq_true_eq,decide_eq_false_iff_not,bne_eq_false_iff_eq,beq_eq_false_iff_ne,gt_iff_lt,ne_eq,not_true_eq_false,not_false_eq_true,hal,h2,h3,h5,hb0,hb1,g0,g1,s0,s1,g0',s0',hlt,hltv,hx,hy,Prt.enc,wp_doneL,List.set_set,↓set_sorti,id_eq,↓WX,simprocAttr]
       apply wp_bothL
       ·rw[wp_pickL rfl]
        simp only[opsOf,List.filterMap_cons,List.filterMap_nil,List.getElem?_toArray,List.getElem?_cons_zero,List.getElem?_cons_succ]
        simp(maxSteps:=1000000)(disch:=omega)only[push_cast,decide_not,decide_eq_true_eq,decide_eq_false_iff_not,bne_eq_false_iff_eq,beq_eq_false_iff_ne,gt_iff_lt,ne_eq,not_true_eq_false,not_false_eq_true,hal,h2,h3,h5,hb0,hb1,g0,g1,s0,s1,g0',s0',hlt,hltv,hx,hy,Prt.enc,wp_doneL,List.set_set,↓set_sorti,id_eq,↓WX,simprocAttr]
        apply wp_bothL
        ·rw[wp_pickL rfl]
         simp only[opsOf,List.filterMap_cons,List.filterMap_nil,List.getElem?_toArray,List.getElem?_cons_zero,List.getElem?_cons_succ]
         simp(maxSteps:=1000000)(disch:=omega)only[push_cast,decide_not,decide_eq_true_eq,decide_eq_false_iff_not,bne_eq_false_iff_eq,beq_eq_false_iff_ne,gt_iff_lt,ne_eq,not_true_eq_false,not_false_eq_true,hal,h2,h3,h5,hb0,hb1,g0,g1,s0,s1,g0',s0',hlt,hltv,hx,hy,Prt.enc,wp_doneL,List.set_set,↓set_sorti,id_eq,↓WX,simprocAttr]
         exact⟨rfl,rfl⟩
        ·rw[wp_pickL rfl]
         simp only[opsOf,List.filterMap_cons,List.filterMap_nil,List.getElem?_toArray,List.getElem?_cons_zero,List.getElem?_cons_succ]
         simp(maxSteps:=1000000)(disch:=omega)only[push_cast,decide_not,decide_eq_true_eq,decide_eq_false_iff_not,bne_eq_false_iff_eq,beq_eq_false_iff_ne,gt_iff_lt,ne_eq,not_true_eq_false,not_false_eq_true,hal,h2,h3,h5,hb0,hb1,g0,g1,s0,s1,g0',s0',hlt,hltv,hx,hy,Prt.enc,wp_doneL,List.set_set,↓set_sorti,id_eq,↓WX,simprocAttr]
        ·exact⟨rfl,rfl⟩
       ·rw[wp_pickL rfl]
        simp only[opsOf,List.filterMap_cons,List.filterMap_nil,List.getElem?_toArray,List.getElem?_cons_zero,List.getElem?_cons_succ]
        simp(maxSteps:=1000000)(disch:=omega)only[push_cast,decide_not,decide_eq_true_eq,decide_eq_false_iff_not,bne_eq_false_iff_eq,beq_eq_false_iff_ne,gt_iff_lt,ne_eq,not_true_eq_false,not_false_eq_true,hal,h2,h3,h5,hb0,hb1,g0,g1,s0,s1,g0',s0',hlt,hltv,hx,hy,Prt.enc,wp_doneL,List.set_set,↓set_sorti,id_eq,↓WX,simprocAttr]
       ·exact⟨rfl,rfl⟩
      ·rw[wp_pickL rfl]
       simp only[opsOf,List.filterMap_cons,List.filterMap_nil,List.getElem?_toArray,List.getElem?_cons_zero,List.getElem?_cons_succ]
       simp(maxSteps:=1000000)(disch:=omega)only[push_cast,decide_not,decide_eq_true_eq,decide_eq_false_iff_not,bne_eq_false_iff_eq,beq_eq_false_iff_ne,gt_iff_lt,ne_eq,not_true_eq_false,not_false_eq_true,hal,h2,h3,h5,hb0,hb1,g0,g1,s0,s1,g0',s0',hlt,hltv,hx,hy,Prt.enc,wp_doneL,List.set_set,↓set_sorti,id_eq,↓WX,simprocAttr]
      ·exact⟨rfl,rfl⟩
     ·exact⟨rfl,rfl⟩
    ·exact⟨rfl,rfl⟩
   simp(maxSteps:=1000000)(disch:=omega)only[push_cast,decide_not,decide_eq_true_eq,decide_eq_false_iff_not,bne_eq_false_iff_eq,beq_eq_false_iff_ne,gt_iff_lt,ne_eq,not_true_eq_false,not_false_eq_true,hal,h2,h3,h5,Prt.enc,↓WX,simprocAttr]
-- END8
  clear hal h2 h3 h5 a
  rintro a W ⟨rfl,hal,h2,h3,h5,h6,h7⟩
  have gx:(V++[Ob.row 4 [x.enc],Ob.row 4 [y.enc]])[V.length]? =some (.row 4 [x.enc]):=by simp
  have gy:(V++[Ob.row 4 [x.enc],Ob.row 4 [y.enc]])[V.length+1]? =some (.row 4 [y.enc]):=by simp
  have hW:∃X',V++[Ob.row 4 [x.enc],Ob.row 4 [y.enc]]=B::C::X':=⟨_,by rw[hT];rfl⟩
  generalize V++[Ob.row 4 [x.enc],Ob.row 4 [y.enc]]=W at*
  generalize V.length=w at*
  simp only[Prt.enc]at gx gy
  by_cases q1:x.to=y.to
  case neg=>
   rw[if_neg q1]at e
   have p1:decide (x.to=y.to)=false:=decide_eq_false q1
   simp(maxSteps:=1000000)(disch:=omega)only[push_cast,decide_not,decide_eq_true_eq,decide_eq_false_iff_not,bne_eq_false_iff_eq,beq_eq_false_iff_ne,gt_iff_lt,ne_eq,not_true_eq_false,not_false_eq_true,hal,h2,h3,h5,h6,h7,gx,gy,p1,Bool.not_false,Tryz.f16,↓WX,simprocAttr]
   rw[e]
  rw[if_pos q1]at e
  have p1:decide (x.to=y.to)=true:=decide_eq_true q1
  by_cases q2:x.fa=y.fa
  case neg=>
   rw[if_neg q2]at e
   have p2:decide (x.fa=y.fa)=false:=decide_eq_false q2
   simp(maxSteps:=1000000)(disch:=omega)only[push_cast,decide_not,decide_eq_true_eq,decide_eq_false_iff_not,bne_eq_false_iff_eq,beq_eq_false_iff_ne,gt_iff_lt,ne_eq,not_true_eq_false,not_false_eq_true,hal,h2,h3,h5,h6,h7,gx,gy,p1,p2,Bool.not_false,Bool.not_true,Tryz.f16,↓WX,simprocAttr]
   rw[e]
  rw[if_pos q2]at e
  have p2:decide (x.fa=y.fa)=true:=decide_eq_true q2
  simp(maxSteps:=1000000)(disch:=omega)only[push_cast,decide_not,decide_eq_true_eq,decide_eq_false_iff_not,bne_eq_false_iff_eq,beq_eq_false_iff_ne,gt_iff_lt,ne_eq,not_true_eq_false,not_false_eq_true,hal,h2,h3,h5,h6,h7,hlt,gx,gy,p1,p2,Bool.not_true,wrap_ok,Int.natCast_add,Int.natCast_one,↓WX,simprocAttr]
  exact⟨hW,e⟩
 obtain⟨_,T,ho,rfl⟩:=this
 exact fun st S=>callD_obsP rfl (by simp only[pureL_cons,pureL_nil,D.pure,Bool.and_true]at hpa hpb ⊢;rw[Bool.and_eq_true];exact⟨hpa,hpb⟩) ho rfl
end
end Go.Proofs.YtaklebjoenophaaGreat.Dm
