/-
  Prices: which are equal, by the program and by the reference.
-/
import Derived.Test.YtaklebjoenophaaGreatPoA
import Derived.Test.YtaklebjoenophaaGreatSkT
set_option linter.unusedSimpArgs false
set_option linter.unusedVariables false
namespace Go.Proofs.YtaklebjoenophaaGreat.Dm
open Go Gw
set_option linter.unusedSimpArgs false
set_option linter.unusedSimpArgs false
def allE {α:Type} (f:α→α→Bool):List α→List α→Bool
 | [],[]=>true
 |x::xs,y::ys=>f x y && allE f xs ys
 |_,_=>false
theorem allE_drop {α:Type} {f:α→α→Bool} {a b:List α} {i:Nat} {x y:α} (hx:a[i]? =some x) (hy:b[i]? =some y):allE f (a.drop i) (b.drop i)=(f x y && allE f (a.drop (i+1)) (b.drop (i+1))):=by
 obtain⟨ha,rfl⟩:=List.getElem?_eq_some_iff.1 hx
 obtain⟨hb,rfl⟩:=List.getElem?_eq_some_iff.1 hy
 rw[List.drop_eq_getElem_cons ha,List.drop_eq_getElem_cons hb]
 rfl
theorem allE_end {α:Type} {f:α→α→Bool} {a b:List α} (h:a.length=b.length):allE f (a.drop a.length) (b.drop a.length)=true:=by
 rw[List.drop_of_length_le (Nat.le_refl _),List.drop_of_length_le (by omega)]
 rfl
theorem allE_len {α:Type} {f:α→α→Bool}:∀ {a b:List α},a.length≠b.length→allE f a b=false
 | [],[],h=>(h rfl).elim
 | [],_::_,_=>rfl
 |_::_,[],_=>rfl
 |x::xs,y::ys,h=>by
  unfold allE
  rw[allE_len (a:=xs) (b:=ys) (by simp only[List.length_cons]at h;omega),Bool.and_false]
theorem allE_iff {α:Type} {f:α→α→Bool} (hf:∀x y,f x y=true↔x=y):∀ {a b:List α},allE f a b=true↔a=b
 | [],[]=>⟨fun _=>rfl,fun _=>rfl⟩
 | [],_::_=>⟨fun h=>(by cases h),fun h=>(by cases h)⟩
 |_::_,[]=>⟨fun h=>(by cases h),fun h=>(by cases h)⟩
 |x::xs,y::ys=>by
  unfold allE
  rw[Bool.and_eq_true,hf,allE_iff hf,List.cons.injEq]
def eqP (x y:Prt):Bool:=decide (x.fr=y.fr) && (decide (x.to=y.to) && (decide (x.fa=y.fa) && decide (x.am=y.am)))
def eqPr (x y:Int×Int):Bool:=decide (x.1=y.1) && decide (x.2=y.2)
def eqCh (x y:ByteArray×Int):Bool:=decide (x.1=y.1) && decide (x.2=y.2)
theorem eqP_iff (x y:Prt):eqP x y=true↔x=y:=by
 unfold eqP
 obtain⟨x0,x1,x2,x3⟩:=x
 obtain⟨y0,y1,y2,y3⟩:=y
 simp only[Bool.and_eq_true,decide_eq_true_eq,Prt.mk.injEq]
theorem eqPr_iff (x y:Int×Int):eqPr x y=true↔x=y:=by
 unfold eqPr
 simp only[Bool.and_eq_true,decide_eq_true_eq,Prod.ext_iff]
theorem eqCh_iff (x y:ByteArray×Int):eqCh x y=true↔x=y:=by
 unfold eqCh
 simp only[Bool.and_eq_true,decide_eq_true_eq,Prod.ext_iff]
theorem plain_prt:plainEqT Tryz.prog 79=true:=by kernel_rfl
theorem plain_two:plainEqT Tryz.prog 91=true:=by kernel_rfl
theorem plain_chg:plainEqT Tryz.prog 93=true:=by kernel_rfl
set_option maxRecDepth 100000 in
theorem eq_prt (x y:Prt):dEq Tryz.prog 10000 79 (.agg [.int .i64 x.fr,.int .i64 x.to,.int .i64 x.fa,.int .i64 x.am]) (.agg [.int .i64 y.fr,.int .i64 y.to,.int .i64 y.fa,.int .i64 y.am])=some (eqP x y):=by
 rw[show (10000:Nat)=9998+1+1 from rfl]
 have hs:Tryz.prog.stoodInHeld 79=false:=by kernel_rfl
 unfold eqP
 by_cases e1:x.fr=y.fr <;> by_cases e2:x.to=y.to <;> by_cases e3:x.fa=y.fa <;> by_cases e4:x.am=y.am <;> simp(decide:=true)only[push_cast,dEq,dEqs,beq_self_eq_true,hs,e1,e2,e3,e4,decide_false,decide_true,Bool.true_and,Bool.false_and]
set_option maxRecDepth 100000 in
theorem eq_two (x y:Int×Int):dEq Tryz.prog 10000 91 (.agg [.int .i64 x.1,.int .i64 x.2]) (.agg [.int .i64 y.1,.int .i64 y.2])=some (eqPr x y):=by
 obtain⟨x1,x2⟩:=x
 obtain⟨y1,y2⟩:=y
 have hu:Tryz.prog.underlying 91=some (.array 2 3):=by kernel_rfl
 have h2:sizeT Tryz.prog 3=some 1:=by kernel_rfl
 have hr:List.range 2=[0,1]:=rfl
 have ei:∀a b:Int,dEq Tryz.prog 9999 3 (.int .i64 a) (.int .i64 b)=some (a == b):=fun a b=>by
  rw[show (9999:Nat)=9998+1 from rfl]
  simp only[push_cast,dEq,↓reduceIte]
 have p0:∀a b:Int,dPart Tryz.prog 3 [.int .i64 a,.int .i64 b] 0=some (.int .i64 a):=fun a b=>by simp only[push_cast,↓reduceIte]
 have p1:∀a b:Int,dPart Tryz.prog 3 [.int .i64 a,.int .i64 b] 1=some (.int .i64 b):=fun a b=>by simp only[push_cast,↓reduceIte]
 show dEq _ (9999+1) _ _ _=_
 generalize (9999:Nat)=d at*
 unfold dEq
 simp only[hu,h2]
 rw[hr]
 simp only[dEqA,Nat.zero_mul,Nat.one_mul,p0,p1,ei]
 unfold eqPr
 dsimp only
 by_cases e1:x1=y1 <;> by_cases e2:x2=y2 <;> simp only[beq_self_eq_true,e1,e2,int_beq,decide_false,decide_true,Bool.true_and,Bool.false_and,Bool.and_self]
set_option maxRecDepth 100000 in
theorem eq_chg (x y:ByteArray×Int):dEq Tryz.prog 10000 93 (.agg [.str x.1,.int .i64 x.2]) (.agg [.str y.1,.int .i64 y.2])=some (eqCh x y):=by
 rw[show (10000:Nat)=9998+1+1 from rfl]
 have hs:Tryz.prog.stoodInHeld 93=false:=by kernel_rfl
 unfold eqCh
 by_cases e1:x.1=y.1 <;> by_cases e2:x.2=y.2 <;> simp(decide:=true)only[push_cast,dEq,dEqs,str_eq',hs,e1,e2,decide_false,decide_true,Bool.true_and,Bool.false_and]
section
variable {n : Nat}
set_option maxHeartbeats 8000000 in
set_option maxRecDepth 100000 in
theorem EqP_c (u v:List Prt) (ux vx:Bool) (hl:u.length≤1048576) (hn:1048580≤n):∀st S,callD E (dcall E n) st S 38 [.sl 4 (u.map Prt.enc) ux,.sl 4 (v.map Prt.enc) vx]=some (.bool (allE eqP u v),S):=by
 obtain⟨m,rfl⟩:∃m,n=m+1:=⟨n-1,by omega⟩
 have:WO (dcall E (m+1) 38 [.sl 4 (u.map Prt.enc) ux,.sl 4 (v.map Prt.enc) vx] []) fun r T=>r=.bool (allE eqP u v):=by
  refine wo_dcall Tryz.func38 rfl (by decide) rfl 26 rfl (fun a hal ha=>?_)
  have h0:a[0]? =some (.sl 4 (u.map Prt.enc) ux):=ha 0 (by simp)
  have h1:a[1]? =some (.sl 4 (v.map Prt.enc) vx):=ha 1 (by simp)
  clear ha
  by_cases c2:u.length=v.length
  case neg=>
   have d2:decide ((u.length:Int)=v.length)=false:=decide_eq_false (by omega)
   simp(maxSteps:=1000000)(disch:=omega)only[push_cast,decide_not,decide_eq_true_eq,decide_eq_false_iff_not,bne_eq_false_iff_eq,beq_eq_false_iff_ne,gt_iff_lt,ne_eq,not_true_eq_false,not_false_eq_true,hal,h0,h1,d2,Bool.not_false,Tryz.f38,↓WX,simprocAttr]
   rw[allE_len c2]
  have d2:decide ((u.length:Int)=v.length)=true:=decide_eq_true (by omega)
  simp(maxSteps:=1000000)(disch:=omega)only[push_cast,decide_not,decide_eq_true_eq,decide_eq_false_iff_not,bne_eq_false_iff_eq,beq_eq_false_iff_ne,gt_iff_lt,ne_eq,not_true_eq_false,not_false_eq_true,hal,h0,h1,d2,Bool.not_true,↓WX,simprocAttr]
  refine wl_loop (fun i a T=>(T=[]∧allE eqP u v=allE eqP (u.drop i) (v.drop i))∧a.length=26∧a[0]? =some (.sl 4 (u.map Prt.enc) ux)∧a[1]? =some (.sl 4 (v.map Prt.enc) vx)∧a[12]? =some (.int .i64 u.length)∧a[13]? =some (.int .i64 i)) u.length ?_ (by omega) ?_
  ·simp(maxSteps:=1000000)(disch:=omega)only[push_cast,decide_not,decide_eq_true_eq,decide_eq_false_iff_not,bne_eq_false_iff_eq,beq_eq_false_iff_ne,gt_iff_lt,ne_eq,not_true_eq_false,not_false_eq_true,hal,h0,h1,Int.natCast_zero,↓WX,simprocAttr]
  clear hal h0 h1 a
  rintro i a T hi ⟨⟨rfl,e⟩,hal,h0,h1,h12,h13⟩
  rcases Nat.lt_or_eq_of_le hi with hlt |rfl
  case inr=>
   simp(maxSteps:=1000000)(disch:=omega)only[push_cast,decide_not,decide_eq_true_eq,decide_eq_false_iff_not,bne_eq_false_iff_eq,beq_eq_false_iff_ne,gt_iff_lt,ne_eq,not_true_eq_false,not_false_eq_true,hal,h0,h1,h12,h13,Int.lt_irrefl,Tryz.f38,↓WX,simprocAttr]
   rw[e,allE_end c2]
  have hltc:(i:Int)<u.length:=by omega
  have hltv:i<v.length:=by omega
  obtain⟨x,hx⟩:∃x,u[i]? =some x:=⟨u[i],by simp⟩
  obtain⟨y,hy⟩:∃y,v[i]? =some y:=⟨v[i],by simp⟩
  rw[allE_drop hx hy]at e
  have hq:=eq_prt x y
  generalize eqP x y=q at hq e
  cases q
  ·simp(maxSteps:=1000000)(disch:=omega)only[push_cast,decide_not,decide_eq_true_eq,decide_eq_false_iff_not,bne_eq_false_iff_eq,beq_eq_false_iff_ne,gt_iff_lt,ne_eq,not_true_eq_false,not_false_eq_true,hal,h0,h1,h12,h13,hltc,hlt,hltv,hx,hy,hq,plain_prt,Bool.not_false,Prt.enc,Tryz.f38,↓WX,simprocAttr]
   rw[e]
   rfl
  ·simp(maxSteps:=1000000)(disch:=omega)only[push_cast,decide_not,decide_eq_true_eq,decide_eq_false_iff_not,bne_eq_false_iff_eq,beq_eq_false_iff_ne,gt_iff_lt,ne_eq,not_true_eq_false,not_false_eq_true,hal,h0,h1,h12,h13,hltc,hlt,hltv,hx,hy,hq,plain_prt,Bool.not_true,Prt.enc,wrap_ok,Int.natCast_add,Int.natCast_one,↓WX,simprocAttr]
   rw[e]
   rfl
 obtain⟨_,T,ho,rfl⟩:=this
 exact fun st S=>callD_obsP rfl (by simp only[pureL_cons,pureL_nil,D.pure,Prts_pure,Bool.and_true]) ho rfl
set_option maxHeartbeats 8000000 in
set_option maxRecDepth 100000 in
theorem EqPr_c (u v:List (Int×Int)) (ux vx:Bool) (hl:u.length≤1048576) (hn:1048580≤n):∀st S,callD E (dcall E n) st S 39 [.sl 2 (u.map encPr) ux,.sl 2 (v.map encPr) vx]=some (.bool (allE eqPr u v),S):=by
 obtain⟨m,rfl⟩:∃m,n=m+1:=⟨n-1,by omega⟩
 have:WO (dcall E (m+1) 39 [.sl 2 (u.map encPr) ux,.sl 2 (v.map encPr) vx] []) fun r T=>r=.bool (allE eqPr u v):=by
  refine wo_dcall Tryz.func39 rfl (by decide) rfl 26 rfl (fun a hal ha=>?_)
  have h0:a[0]? =some (.sl 2 (u.map encPr) ux):=ha 0 (by simp)
  have h1:a[1]? =some (.sl 2 (v.map encPr) vx):=ha 1 (by simp)
  clear ha
  by_cases c2:u.length=v.length
  case neg=>
   have d2:decide ((u.length:Int)=v.length)=false:=decide_eq_false (by omega)
   simp(maxSteps:=1000000)(disch:=omega)only[push_cast,decide_not,decide_eq_true_eq,decide_eq_false_iff_not,bne_eq_false_iff_eq,beq_eq_false_iff_ne,gt_iff_lt,ne_eq,not_true_eq_false,not_false_eq_true,hal,h0,h1,d2,Bool.not_false,Tryz.f39,↓WX,simprocAttr]
   rw[allE_len c2]
  have d2:decide ((u.length:Int)=v.length)=true:=decide_eq_true (by omega)
  simp(maxSteps:=1000000)(disch:=omega)only[push_cast,decide_not,decide_eq_true_eq,decide_eq_false_iff_not,bne_eq_false_iff_eq,beq_eq_false_iff_ne,gt_iff_lt,ne_eq,not_true_eq_false,not_false_eq_true,hal,h0,h1,d2,Bool.not_true,↓WX,simprocAttr]
  refine wl_loop (fun i a T=>(T=[]∧allE eqPr u v=allE eqPr (u.drop i) (v.drop i))∧a.length=26∧a[0]? =some (.sl 2 (u.map encPr) ux)∧a[1]? =some (.sl 2 (v.map encPr) vx)∧a[12]? =some (.int .i64 u.length)∧a[13]? =some (.int .i64 i)) u.length ?_ (by omega) ?_
  ·simp(maxSteps:=1000000)(disch:=omega)only[push_cast,decide_not,decide_eq_true_eq,decide_eq_false_iff_not,bne_eq_false_iff_eq,beq_eq_false_iff_ne,gt_iff_lt,ne_eq,not_true_eq_false,not_false_eq_true,hal,h0,h1,Int.natCast_zero,↓WX,simprocAttr]
  clear hal h0 h1 a
  rintro i a T hi ⟨⟨rfl,e⟩,hal,h0,h1,h12,h13⟩
  rcases Nat.lt_or_eq_of_le hi with hlt |rfl
  case inr=>
   simp(maxSteps:=1000000)(disch:=omega)only[push_cast,decide_not,decide_eq_true_eq,decide_eq_false_iff_not,bne_eq_false_iff_eq,beq_eq_false_iff_ne,gt_iff_lt,ne_eq,not_true_eq_false,not_false_eq_true,hal,h0,h1,h12,h13,Int.lt_irrefl,Tryz.f39,↓WX,simprocAttr]
   rw[e,allE_end c2]
  have hltc:(i:Int)<u.length:=by omega
  have hltv:i<v.length:=by omega
  obtain⟨x,hx⟩:∃x,u[i]? =some x:=⟨u[i],by simp⟩
  obtain⟨y,hy⟩:∃y,v[i]? =some y:=⟨v[i],by simp⟩
  rw[allE_drop hx hy]at e
  have hq:=eq_two x y
  generalize eqPr x y=q at hq e
  cases q
  ·simp(maxSteps:=1000000)(disch:=omega)only[push_cast,decide_not,decide_eq_true_eq,decide_eq_false_iff_not,bne_eq_false_iff_eq,beq_eq_false_iff_ne,gt_iff_lt,ne_eq,not_true_eq_false,not_false_eq_true,hal,h0,h1,h12,h13,hltc,hlt,hltv,hx,hy,hq,plain_two,Bool.not_false,encPr,Tryz.f39,↓WX,simprocAttr]
   rw[e]
   rfl
  ·simp(maxSteps:=1000000)(disch:=omega)only[push_cast,decide_not,decide_eq_true_eq,decide_eq_false_iff_not,bne_eq_false_iff_eq,beq_eq_false_iff_ne,gt_iff_lt,ne_eq,not_true_eq_false,not_false_eq_true,hal,h0,h1,h12,h13,hltc,hlt,hltv,hx,hy,hq,plain_two,Bool.not_true,encPr,wrap_ok,Int.natCast_add,Int.natCast_one,↓WX,simprocAttr]
   rw[e]
   rfl
 obtain⟨_,T,ho,rfl⟩:=this
 exact fun st S=>callD_obsP rfl (by simp only[pureL_cons,pureL_nil,D.pure,encPrs_pure,Bool.and_true]) ho rfl
set_option maxHeartbeats 8000000 in
set_option maxRecDepth 100000 in
theorem EqCh_c (u v:List (ByteArray×Int)) (ux vx:Bool) (hl:u.length≤1048576) (hn:1048580≤n):∀st S,callD E (dcall E n) st S 40 [.sl 2 (u.map encCh) ux,.sl 2 (v.map encCh) vx]=some (.bool (allE eqCh u v),S):=by
 obtain⟨m,rfl⟩:∃m,n=m+1:=⟨n-1,by omega⟩
 have:WO (dcall E (m+1) 40 [.sl 2 (u.map encCh) ux,.sl 2 (v.map encCh) vx] []) fun r T=>r=.bool (allE eqCh u v):=by
  refine wo_dcall Tryz.func40 rfl (by decide) rfl 26 rfl (fun a hal ha=>?_)
  have h0:a[0]? =some (.sl 2 (u.map encCh) ux):=ha 0 (by simp)
  have h1:a[1]? =some (.sl 2 (v.map encCh) vx):=ha 1 (by simp)
  clear ha
  by_cases c2:u.length=v.length
  case neg=>
   have d2:decide ((u.length:Int)=v.length)=false:=decide_eq_false (by omega)
   simp(maxSteps:=1000000)(disch:=omega)only[push_cast,decide_not,decide_eq_true_eq,decide_eq_false_iff_not,bne_eq_false_iff_eq,beq_eq_false_iff_ne,gt_iff_lt,ne_eq,not_true_eq_false,not_false_eq_true,hal,h0,h1,d2,Bool.not_false,Tryz.f40,↓WX,simprocAttr]
   rw[allE_len c2]
  have d2:decide ((u.length:Int)=v.length)=true:=decide_eq_true (by omega)
  simp(maxSteps:=1000000)(disch:=omega)only[push_cast,decide_not,decide_eq_true_eq,decide_eq_false_iff_not,bne_eq_false_iff_eq,beq_eq_false_iff_ne,gt_iff_lt,ne_eq,not_true_eq_false,not_false_eq_true,hal,h0,h1,d2,Bool.not_true,↓WX,simprocAttr]
  refine wl_loop (fun i a T=>(T=[]∧allE eqCh u v=allE eqCh (u.drop i) (v.drop i))∧a.length=26∧a[0]? =some (.sl 2 (u.map encCh) ux)∧a[1]? =some (.sl 2 (v.map encCh) vx)∧a[12]? =some (.int .i64 u.length)∧a[13]? =some (.int .i64 i)) u.length ?_ (by omega) ?_
  ·simp(maxSteps:=1000000)(disch:=omega)only[push_cast,decide_not,decide_eq_true_eq,decide_eq_false_iff_not,bne_eq_false_iff_eq,beq_eq_false_iff_ne,gt_iff_lt,ne_eq,not_true_eq_false,not_false_eq_true,hal,h0,h1,Int.natCast_zero,↓WX,simprocAttr]
  clear hal h0 h1 a
  rintro i a T hi ⟨⟨rfl,e⟩,hal,h0,h1,h12,h13⟩
  rcases Nat.lt_or_eq_of_le hi with hlt |rfl
  case inr=>
   simp(maxSteps:=1000000)(disch:=omega)only[push_cast,decide_not,decide_eq_true_eq,decide_eq_false_iff_not,bne_eq_false_iff_eq,beq_eq_false_iff_ne,gt_iff_lt,ne_eq,not_true_eq_false,not_false_eq_true,hal,h0,h1,h12,h13,Int.lt_irrefl,Tryz.f40,↓WX,simprocAttr]
   rw[e,allE_end c2]
  have hltc:(i:Int)<u.length:=by omega
  have hltv:i<v.length:=by omega
  obtain⟨x,hx⟩:∃x,u[i]? =some x:=⟨u[i],by simp⟩
  obtain⟨y,hy⟩:∃y,v[i]? =some y:=⟨v[i],by simp⟩
  rw[allE_drop hx hy]at e
  have hq:=eq_chg x y
  generalize eqCh x y=q at hq e
  cases q
  ·simp(maxSteps:=1000000)(disch:=omega)only[push_cast,decide_not,decide_eq_true_eq,decide_eq_false_iff_not,bne_eq_false_iff_eq,beq_eq_false_iff_ne,gt_iff_lt,ne_eq,not_true_eq_false,not_false_eq_true,hal,h0,h1,h12,h13,hltc,hlt,hltv,hx,hy,hq,plain_chg,Bool.not_false,encCh,Tryz.f40,↓WX,simprocAttr]
   rw[e]
   rfl
  ·simp(maxSteps:=1000000)(disch:=omega)only[push_cast,decide_not,decide_eq_true_eq,decide_eq_false_iff_not,bne_eq_false_iff_eq,beq_eq_false_iff_ne,gt_iff_lt,ne_eq,not_true_eq_false,not_false_eq_true,hal,h0,h1,h12,h13,hltc,hlt,hltv,hx,hy,hq,plain_chg,Bool.not_true,encCh,wrap_ok,Int.natCast_add,Int.natCast_one,↓WX,simprocAttr]
   rw[e]
   rfl
 obtain⟨_,T,ho,rfl⟩:=this
 exact fun st S=>callD_obsP rfl (by simp only[pureL_cons,pureL_nil,D.pure,encChs_pure,Bool.and_true]) ho rfl
def sameF (u v:Quo):Bool:=allE eqP u.parts v.parts && (allE eqPr u.pairs v.pairs && (allE eqCh u.taxes v.taxes && (decide (u.fare=v.fare) && decide (u.total=v.total))))
set_option maxHeartbeats 8000000 in
set_option maxRecDepth 100000 in
theorem PSame_c (u v:Quo) (hl:u.parts.length≤1048576) (hp:u.pairs.length≤1048576) (ht:u.taxes.length≤1048576) (hn:1048590≤n):∀st S,callD E (dcall E n) st S 17 [.agg u.enc,.agg v.enc]=some (.bool (sameF u v),S):=by
 obtain⟨m,rfl⟩:∃m,n=m+1:=⟨n-1,by omega⟩
 have hpa:=Quo_pure u
 have hpb:=Quo_pure v
 have q1:=EqP_c (n:=m) u.parts v.parts u.px v.px hl (by omega)
 have q2:=EqPr_c (n:=m) u.pairs v.pairs u.qx v.qx hp (by omega)
 have q3:=EqCh_c (n:=m) u.taxes v.taxes u.tx v.tx ht (by omega)
 simp only[Quo.enc]at hpa hpb ⊢
 have:WO (dcall E (m+1) 17 [.agg [.sl 4 (u.parts.map Prt.enc) u.px,.sl 2 (u.pairs.map encPr) u.qx,.sl 2 (u.taxes.map encCh) u.tx,.int .i64 u.fare,.int .i64 u.total],.agg [.sl 4 (v.parts.map Prt.enc) v.px,.sl 2 (v.pairs.map encPr) v.qx,.sl 2 (v.taxes.map encCh) v.tx,.int .i64 v.fare,.int .i64 v.total]] []) fun r T=>r=.bool (sameF u v):=by
  refine wo_dcall Tryz.func17 rfl (by decide) rfl 38 rfl (fun a hal ha=>?_)
  have h0:a[0]? =some (.agg [.sl 4 (u.parts.map Prt.enc) u.px,.sl 2 (u.pairs.map encPr) u.qx,.sl 2 (u.taxes.map encCh) u.tx,.int .i64 u.fare,.int .i64 u.total]):=ha 0 (by simp)
  have h1:a[1]? =some (.agg [.sl 4 (v.parts.map Prt.enc) v.px,.sl 2 (v.pairs.map encPr) v.qx,.sl 2 (v.taxes.map encCh) v.tx,.int .i64 v.fare,.int .i64 v.total]):=ha 1 (by simp)
  clear ha
  unfold sameF
  generalize allE eqP u.parts v.parts=b1 at*
  generalize allE eqPr u.pairs v.pairs=b2 at*
  generalize allE eqCh u.taxes v.taxes=b3 at*
  generalize hb4:decide (u.fare=v.fare)=b4
  generalize hb5:decide (u.total=v.total)=b5
  cases b1
  ·simp(maxSteps:=1000000)(disch:=omega)only[push_cast,decide_not,decide_eq_true_eq,decide_eq_false_iff_not,bne_eq_false_iff_eq,beq_eq_false_iff_ne,gt_iff_lt,ne_eq,not_true_eq_false,not_false_eq_true,hal,h0,h1,q1,Bool.false_and,Tryz.f17,↓WX,simprocAttr]
  cases b2
  ·simp(maxSteps:=1000000)(disch:=omega)only[push_cast,decide_not,decide_eq_true_eq,decide_eq_false_iff_not,bne_eq_false_iff_eq,beq_eq_false_iff_ne,gt_iff_lt,ne_eq,not_true_eq_false,not_false_eq_true,hal,h0,h1,q1,q2,Bool.true_and,Bool.false_and,Tryz.f17,↓WX,simprocAttr]
  cases b3
  ·simp(maxSteps:=1000000)(disch:=omega)only[push_cast,decide_not,decide_eq_true_eq,decide_eq_false_iff_not,bne_eq_false_iff_eq,beq_eq_false_iff_ne,gt_iff_lt,ne_eq,not_true_eq_false,not_false_eq_true,hal,h0,h1,q1,q2,q3,Bool.true_and,Bool.false_and,Tryz.f17,↓WX,simprocAttr]
  cases b4
  ·simp(maxSteps:=1000000)(disch:=omega)only[push_cast,decide_not,decide_eq_true_eq,decide_eq_false_iff_not,bne_eq_false_iff_eq,beq_eq_false_iff_ne,gt_iff_lt,ne_eq,not_true_eq_false,not_false_eq_true,hal,h0,h1,q1,q2,q3,hb4,Bool.true_and,Bool.false_and,Tryz.f17,↓WX,simprocAttr]
  simp(maxSteps:=1000000)(disch:=omega)only[push_cast,decide_not,decide_eq_true_eq,decide_eq_false_iff_not,bne_eq_false_iff_eq,beq_eq_false_iff_ne,gt_iff_lt,ne_eq,not_true_eq_false,not_false_eq_true,hal,h0,h1,q1,q2,q3,hb4,hb5,Bool.true_and,Tryz.f17,↓WX,simprocAttr]
 obtain⟨_,T,ho,rfl⟩:=this
 exact fun st S=>callD_obsP rfl (by simp only[pureL_cons,pureL_nil,D.pure,Bool.and_true]at hpa hpb ⊢;rw[Bool.and_eq_true];exact⟨hpa,hpb⟩) ho rfl
end
end Go.Proofs.YtaklebjoenophaaGreat.Dm
