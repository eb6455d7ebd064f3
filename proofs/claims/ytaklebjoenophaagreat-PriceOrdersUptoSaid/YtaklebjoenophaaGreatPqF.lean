/-
  Prices compared by the reference, however their lists lie.
-/
import Derived.Test.YtaklebjoenophaaGreatPqE
import Derived.Test.YtaklebjoenophaaGreatPoG
set_option linter.unusedSimpArgs false
set_option linter.unusedVariables false
namespace Go.Proofs.YtaklebjoenophaaGreat.Dm
open Go Gw
set_option linter.unusedSimpArgs false
set_option linter.unusedSimpArgs false
section
variable {n : Nat}
set_option maxHeartbeats 8000000 in
set_option maxRecDepth 100000 in
theorem RSame_x (u v:Quo) {d1 d2 d3 e1 e2 e3:D} (k1:FLs 4 Prt.enc d1 u.parts) (k2:FLs 2 encPr d2 u.pairs) (k3:FLs 2 encCh d3 u.taxes) (j1:FLs 4 Prt.enc e1 v.parts) (j2:FLs 2 encPr e2 v.pairs) (j3:FLs 2 encCh e3 v.taxes) (hl:u.parts.length≤1048576) (hp:u.pairs.length≤1048576) (ht:u.taxes.length≤1048576) (hn:1048590≤n):∀st S,callD E (dcall E n) st S 12 [.agg [d1,d2,d3,.int .i64 u.fare,.int .i64 u.total],.agg [e1,e2,e3,.int .i64 v.fare,.int .i64 v.total]]=some (.bool (sameF u v),S):=by
 obtain⟨m,rfl⟩:∃m,n=m+1:=⟨n-1,by omega⟩
 have hpp:pureL [.agg [d1,d2,d3,.int .i64 u.fare,.int .i64 u.total],.agg [e1,e2,e3,.int .i64 v.fare,.int .i64 v.total]]=true:=by simp only[pureL_cons,pureL_nil,D.pure,fls_pure k1 (Prts_pure _),fls_pure k2 (encPrs_pure _),fls_pure k3 (encChs_pure _),fls_pure j1 (Prts_pure _),fls_pure j2 (encPrs_pure _),fls_pure j3 (encChs_pure _),Bool.and_true]
 have y1:=fun S=>fls_len (S:=S) Tryz.underlying37 k1
 have y2:=fun S=>fls_len (S:=S) Tryz.underlying38 k2
 have y3:=fun S=>fls_len (S:=S) Tryz.underlying39 k3
 have z1:=fun S=>fls_len (S:=S) Tryz.underlying37 j1
 have z2:=fun S=>fls_len (S:=S) Tryz.underlying38 j2
 have z3:=fun S=>fls_len (S:=S) Tryz.underlying39 j3
 have o1:=fls_one k1
 have o2:=fls_one k2
 have o3:=fls_one k3
 have p1:=fls_one j1
 have p2:=fls_one j2
 have p3:=fls_one j3
 simp only[D.one]at o1 o2 o3 p1 p2 p3
 simp only[push_cast]at y1 y2 y3 z1 z2 z3
 obtain⟨B,hB⟩:∃r:Ob,r=Ob.row 5 [[d1,d2,d3,.int .i64 u.fare,.int .i64 u.total]]:=⟨_,rfl⟩
 obtain⟨C,hC⟩:∃r:Ob,r=Ob.row 5 [[e1,e2,e3,.int .i64 v.fare,.int .i64 v.total]]:=⟨_,rfl⟩
 have hb0:([B,C]:List Ob)[0]? =some (Ob.row 5 [[d1,d2,d3,.int .i64 u.fare,.int .i64 u.total]]):=by rw[←hB];rfl
 have hb1:([B,C]:List Ob)[1]? =some (Ob.row 5 [[e1,e2,e3,.int .i64 v.fare,.int .i64 v.total]]):=by rw[←hC];rfl
 have:WO (dcall E (m+1) 12 [.agg [d1,d2,d3,.int .i64 u.fare,.int .i64 u.total],.agg [e1,e2,e3,.int .i64 v.fare,.int .i64 v.total]] []) fun r T=>r=.bool (sameF u v):=by
  refine wo_dcall Tryz.func12 rfl (by decide) rfl 101 rfl (fun a hal ha=>?_)
  have h0:a[0]? =some (.agg [d1,d2,d3,.int .i64 u.fare,.int .i64 u.total]):=ha 0 (by simp)
  have h1:a[1]? =some (.agg [e1,e2,e3,.int .i64 v.fare,.int .i64 v.total]):=ha 1 (by simp)
  clear ha
  refine wc_scut (fun a V=>V=[B,C]∧a.length=101∧a[2]? =some (.loc 0 0 0)∧a[3]? =some (.loc 1 0 0)) ?_ ?_
  ·simp(maxSteps:=1000000)(disch:=omega)only[push_cast,decide_not,decide_eq_true_eq,decide_eq_false_iff_not,bne_eq_false_iff_eq,beq_eq_false_iff_ne,gt_iff_lt,ne_eq,not_true_eq_false,not_false_eq_true,hal,h0,h1,o1,o2,o3,p1,p2,p3,↓WX,simprocAttr]
   rw[hB,hC]
  clear hal h0 h1 a
  rintro a V ⟨hV,hal,h2,h3⟩
  obtain⟨W,hW⟩:∃W:List Ob,W=[B,C]:=⟨_,rfl⟩
  rw[←hW]at hb0 hb1 hV
  subst hV
  clear hW hB hC
  by_cases c1:u.parts.length=v.parts.length
  case neg=>
   have q1:decide ((u.parts.length:Int)=v.parts.length)=false:=decide_eq_false (by omega)
   simp(maxSteps:=1000000)(disch:=omega)only[push_cast,decide_not,decide_eq_true_eq,decide_eq_false_iff_not,bne_eq_false_iff_eq,beq_eq_false_iff_ne,gt_iff_lt,ne_eq,not_true_eq_false,not_false_eq_true,hal,h2,h3,hb0,hb1,y1,z1,q1,Bool.not_false,Tryz.f12,↓WX,simprocAttr]
   unfold sameF
   rw[allE_len c1,Bool.false_and]
  have q1:decide ((u.parts.length:Int)=v.parts.length)=true:=decide_eq_true (by omega)
  by_cases c2:u.pairs.length=v.pairs.length
  case neg=>
   have q2:decide ((u.pairs.length:Int)=v.pairs.length)=false:=decide_eq_false (by omega)
   simp(maxSteps:=1000000)(disch:=omega)only[push_cast,decide_not,decide_eq_true_eq,decide_eq_false_iff_not,bne_eq_false_iff_eq,beq_eq_false_iff_ne,gt_iff_lt,ne_eq,not_true_eq_false,not_false_eq_true,hal,h2,h3,hb0,hb1,y1,y2,z1,z2,q1,q2,Bool.not_false,Bool.not_true,Tryz.f12,↓WX,simprocAttr]
   unfold sameF
   rw[allE_len c2,Bool.false_and,Bool.and_false]
  have q2:decide ((u.pairs.length:Int)=v.pairs.length)=true:=decide_eq_true (by omega)
  by_cases c3:u.taxes.length=v.taxes.length
  case neg=>
   have q3:decide ((u.taxes.length:Int)=v.taxes.length)=false:=decide_eq_false (by omega)
   simp(maxSteps:=1000000)(disch:=omega)only[push_cast,decide_not,decide_eq_true_eq,decide_eq_false_iff_not,bne_eq_false_iff_eq,beq_eq_false_iff_ne,gt_iff_lt,ne_eq,not_true_eq_false,not_false_eq_true,hal,h2,h3,hb0,hb1,y1,y2,y3,z1,z2,z3,q1,q2,q3,Bool.not_false,Bool.not_true,Tryz.f12,↓WX,simprocAttr]
   unfold sameF
   rw[allE_len c3,Bool.false_and,Bool.and_false,Bool.and_false]
  have q3:decide ((u.taxes.length:Int)=v.taxes.length)=true:=decide_eq_true (by omega)
  by_cases c4:u.fare=v.fare
  case neg=>
   have q4:decide (u.fare=v.fare)=false:=decide_eq_false c4
   simp(maxSteps:=1000000)(disch:=omega)only[push_cast,decide_not,decide_eq_true_eq,decide_eq_false_iff_not,bne_eq_false_iff_eq,beq_eq_false_iff_ne,gt_iff_lt,ne_eq,not_true_eq_false,not_false_eq_true,hal,h2,h3,hb0,hb1,y1,y2,y3,z1,z2,z3,q1,q2,q3,q4,Bool.not_false,Bool.not_true,Tryz.f12,↓WX,simprocAttr]
   unfold sameF
   rw[q4,Bool.false_and,Bool.and_false,Bool.and_false,Bool.and_false]
  have q4:decide (u.fare=v.fare)=true:=decide_eq_true c4
  by_cases c5:u.total=v.total
  case neg=>
   have q5:decide (u.total=v.total)=false:=decide_eq_false c5
   simp(maxSteps:=1000000)(disch:=omega)only[push_cast,decide_not,decide_eq_true_eq,decide_eq_false_iff_not,bne_eq_false_iff_eq,beq_eq_false_iff_ne,gt_iff_lt,ne_eq,not_true_eq_false,not_false_eq_true,hal,h2,h3,hb0,hb1,y1,y2,y3,z1,z2,z3,q1,q2,q3,q4,q5,Bool.not_false,Bool.not_true,Tryz.f12,↓WX,simprocAttr]
   unfold sameF
   rw[q5,Bool.and_false,Bool.and_false,Bool.and_false,Bool.and_false]
  have q5:decide (u.total=v.total)=true:=decide_eq_true c5
  have e0:sameF u v=(allE eqP u.parts v.parts && (allE eqPr u.pairs v.pairs && allE eqCh u.taxes v.taxes)):=by
   unfold sameF
   rw[q4,q5,Bool.and_self,Bool.and_true]
  simp(maxSteps:=1000000)(disch:=omega)only[push_cast,decide_not,decide_eq_true_eq,decide_eq_false_iff_not,bne_eq_false_iff_eq,beq_eq_false_iff_ne,gt_iff_lt,ne_eq,not_true_eq_false,not_false_eq_true,hal,h2,h3,hb0,hb1,y1,y2,y3,z1,z2,z3,q1,q2,q3,q4,q5,Bool.not_true,↓WX,simprocAttr]
  refine wl_loop (fun i a T=>(T=V∧allE eqP u.parts v.parts=allE eqP (u.parts.drop i) (v.parts.drop i))∧a.length=101∧a[2]? =some (.loc 0 0 0)∧a[3]? =some (.loc 1 0 0)∧a[5]? =some (.int .i64 i)) u.parts.length ?_ (by omega) ?_
  ·simp(maxSteps:=1000000)(disch:=omega)only[push_cast,decide_not,decide_eq_true_eq,decide_eq_false_iff_not,bne_eq_false_iff_eq,beq_eq_false_iff_ne,gt_iff_lt,ne_eq,not_true_eq_false,not_false_eq_true,hal,h2,h3,Int.natCast_zero,↓WX,simprocAttr]
  clear hal h2 h3 a
  rintro i a T hi ⟨⟨rfl,e⟩,hal,h2,h3,h5⟩
  rcases Nat.lt_or_eq_of_le hi with hlt |rfl
  case inl=>
   have hltc:(i:Int)<u.parts.length:=by omega
   have hltv:i<v.parts.length:=by omega
   obtain⟨x,hx⟩:∃x,u.parts[i]? =some x:=⟨u.parts[i],by simp⟩
   obtain⟨y,hy⟩:∃y,v.parts[i]? =some y:=⟨v.parts[i],by simp⟩
   rw[allE_drop hx hy]at e
   rcases k1 with ⟨-,g⟩ | ⟨ux,rfl⟩
   ·rw[g]at hx;cases hx
   rcases j1 with ⟨-,g⟩ | ⟨vx,rfl⟩
   ·rw[g]at hy;cases hy
   have hq:=eq_prt x y
   generalize eqP x y=q at hq e
   cases q
   ·simp(maxSteps:=1000000)(disch:=omega)only[push_cast,decide_not,decide_eq_true_eq,decide_eq_false_iff_not,bne_eq_false_iff_eq,beq_eq_false_iff_ne,gt_iff_lt,ne_eq,not_true_eq_false,not_false_eq_true,hal,h2,h3,h5,hb0,hb1,hltc,hlt,hltv,hx,hy,hq,plain_prt,Bool.not_false,Prt.enc,Tryz.f12,↓WX,simprocAttr]
    rw[e0,e]
    rfl
   ·simp(maxSteps:=1000000)(disch:=omega)only[push_cast,decide_not,decide_eq_true_eq,decide_eq_false_iff_not,bne_eq_false_iff_eq,beq_eq_false_iff_ne,gt_iff_lt,ne_eq,not_true_eq_false,not_false_eq_true,hal,h2,h3,h5,hb0,hb1,hltc,hlt,hltv,hx,hy,hq,plain_prt,Bool.not_true,Prt.enc,wrap_ok,Int.natCast_add,Int.natCast_one,↓WX,simprocAttr]
    rw[e]
    rfl
  rw[allE_end c1]at e
  rw[e,Bool.true_and]at e0
  clear e q1 c1 hi
  simp(maxSteps:=1000000)(disch:=omega)only[push_cast,decide_not,decide_eq_true_eq,decide_eq_false_iff_not,bne_eq_false_iff_eq,beq_eq_false_iff_ne,gt_iff_lt,ne_eq,not_true_eq_false,not_false_eq_true,hal,h2,h3,h5,hb0,hb1,y1,z1,Int.lt_irrefl,↓WX,simprocAttr]
  refine wl_loop (fun i a W=>(W=T∧allE eqPr u.pairs v.pairs=allE eqPr (u.pairs.drop i) (v.pairs.drop i))∧a.length=101∧a[2]? =some (.loc 0 0 0)∧a[3]? =some (.loc 1 0 0)∧a[6]? =some (.int .i64 i)) u.pairs.length ?_ (by omega) ?_
  ·simp(maxSteps:=1000000)(disch:=omega)only[push_cast,decide_not,decide_eq_true_eq,decide_eq_false_iff_not,bne_eq_false_iff_eq,beq_eq_false_iff_ne,gt_iff_lt,ne_eq,not_true_eq_false,not_false_eq_true,hal,h2,h3,h5,Int.natCast_zero,↓WX,simprocAttr]
  clear hal h2 h3 h5 a
  rintro i a T hi ⟨⟨rfl,e⟩,hal,h2,h3,h6⟩
  rcases Nat.lt_or_eq_of_le hi with hlt |rfl
  case inl=>
   have hltc:(i:Int)<u.pairs.length:=by omega
   have hltv:i<v.pairs.length:=by omega
   obtain⟨x,hx⟩:∃x,u.pairs[i]? =some x:=⟨u.pairs[i],by simp⟩
   obtain⟨y,hy⟩:∃y,v.pairs[i]? =some y:=⟨v.pairs[i],by simp⟩
   rw[allE_drop hx hy]at e
   rcases k2 with ⟨-,g⟩ | ⟨ux,rfl⟩
   ·rw[g]at hx;cases hx
   rcases j2 with ⟨-,g⟩ | ⟨vx,rfl⟩
   ·rw[g]at hy;cases hy
   have hq:=eq_two x y
   generalize eqPr x y=q at hq e
   cases q
   ·simp(maxSteps:=1000000)(disch:=omega)only[push_cast,decide_not,decide_eq_true_eq,decide_eq_false_iff_not,bne_eq_false_iff_eq,beq_eq_false_iff_ne,gt_iff_lt,ne_eq,not_true_eq_false,not_false_eq_true,hal,h2,h3,h6,hb0,hb1,hltc,hlt,hltv,hx,hy,hq,plain_two,Bool.not_false,encPr,Tryz.f12,↓WX,simprocAttr]
    rw[e0,e]
    rfl
   ·simp(maxSteps:=1000000)(disch:=omega)only[push_cast,decide_not,decide_eq_true_eq,decide_eq_false_iff_not,bne_eq_false_iff_eq,beq_eq_false_iff_ne,gt_iff_lt,ne_eq,not_true_eq_false,not_false_eq_true,hal,h2,h3,h6,hb0,hb1,hltc,hlt,hltv,hx,hy,hq,plain_two,Bool.not_true,encPr,wrap_ok,Int.natCast_add,Int.natCast_one,↓WX,simprocAttr]
    rw[e]
    rfl
  rw[allE_end c2]at e
  rw[e,Bool.true_and]at e0
  clear e q2 c2 hi
  simp(maxSteps:=1000000)(disch:=omega)only[push_cast,decide_not,decide_eq_true_eq,decide_eq_false_iff_not,bne_eq_false_iff_eq,beq_eq_false_iff_ne,gt_iff_lt,ne_eq,not_true_eq_false,not_false_eq_true,hal,h2,h3,h6,hb0,hb1,y2,z2,Int.lt_irrefl,↓WX,simprocAttr]
  refine wl_loop (fun i a W=>(W=T∧allE eqCh u.taxes v.taxes=allE eqCh (u.taxes.drop i) (v.taxes.drop i))∧a.length=101∧a[2]? =some (.loc 0 0 0)∧a[3]? =some (.loc 1 0 0)∧a[7]? =some (.int .i64 i)) u.taxes.length ?_ (by omega) ?_
  ·simp(maxSteps:=1000000)(disch:=omega)only[push_cast,decide_not,decide_eq_true_eq,decide_eq_false_iff_not,bne_eq_false_iff_eq,beq_eq_false_iff_ne,gt_iff_lt,ne_eq,not_true_eq_false,not_false_eq_true,hal,h2,h3,h6,Int.natCast_zero,↓WX,simprocAttr]
  clear hal h2 h3 h6 a
  rintro i a T hi ⟨⟨rfl,e⟩,hal,h2,h3,h7⟩
  rcases Nat.lt_or_eq_of_le hi with hlt |rfl
  case inl=>
   have hltc:(i:Int)<u.taxes.length:=by omega
   have hltv:i<v.taxes.length:=by omega
   obtain⟨x,hx⟩:∃x,u.taxes[i]? =some x:=⟨u.taxes[i],by simp⟩
   obtain⟨y,hy⟩:∃y,v.taxes[i]? =some y:=⟨v.taxes[i],by simp⟩
   rw[allE_drop hx hy]at e
   rcases k3 with ⟨-,g⟩ | ⟨ux,rfl⟩
   ·rw[g]at hx;cases hx
   rcases j3 with ⟨-,g⟩ | ⟨vx,rfl⟩
   ·rw[g]at hy;cases hy
   have hq:=eq_chg x y
   generalize eqCh x y=q at hq e
   cases q
   ·simp(maxSteps:=1000000)(disch:=omega)only[push_cast,decide_not,decide_eq_true_eq,decide_eq_false_iff_not,bne_eq_false_iff_eq,beq_eq_false_iff_ne,gt_iff_lt,ne_eq,not_true_eq_false,not_false_eq_true,hal,h2,h3,h7,hb0,hb1,hltc,hlt,hltv,hx,hy,hq,plain_chg,Bool.not_false,encCh,Tryz.f12,↓WX,simprocAttr]
    rw[e0,e]
    rfl
   ·simp(maxSteps:=1000000)(disch:=omega)only[push_cast,decide_not,decide_eq_true_eq,decide_eq_false_iff_not,bne_eq_false_iff_eq,beq_eq_false_iff_ne,gt_iff_lt,ne_eq,not_true_eq_false,not_false_eq_true,hal,h2,h3,h7,hb0,hb1,hltc,hlt,hltv,hx,hy,hq,plain_chg,Bool.not_true,encCh,wrap_ok,Int.natCast_add,Int.natCast_one,↓WX,simprocAttr]
    rw[e]
    rfl
  rw[allE_end c3]at e
  rw[e]at e0
  simp(maxSteps:=1000000)(disch:=omega)only[push_cast,decide_not,decide_eq_true_eq,decide_eq_false_iff_not,bne_eq_false_iff_eq,beq_eq_false_iff_ne,gt_iff_lt,ne_eq,not_true_eq_false,not_false_eq_true,hal,h2,h3,h7,hb0,hb1,y3,z3,Int.lt_irrefl,Tryz.f12,↓WX,simprocAttr]
  rw[e0]
 obtain⟨_,T,ho,rfl⟩:=this
 exact fun st S=>callD_obsP rfl hpp ho rfl
end
end Go.Proofs.YtaklebjoenophaaGreat.Dm
