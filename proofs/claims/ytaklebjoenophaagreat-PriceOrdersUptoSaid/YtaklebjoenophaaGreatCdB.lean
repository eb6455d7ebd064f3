/-
  The reference's check of a condition: some error or none.
  The reference's check of a condition, second part.
-/
import Derived.Test.YtaklebjoenophaaGreatCfG
import Derived.Test.YtaklebjoenophaaGreatPlA
set_option linter.unusedSimpArgs false
set_option linter.unusedVariables false
namespace Go.Proofs.YtaklebjoenophaaGreat.Dm
open Go Gw
set_option linter.unusedSimpArgs false
set_option linter.unusedSimpArgs false
theorem plain_per:plainEqT Tryz.prog 66=true:=by kernel_rfl
set_option maxRecDepth 100000 in
theorem eq_per (a b c:Int):∃r,dEq Tryz.prog 10000 66 (.agg [.int .i64 a,.int .i64 b,.int .i64 c]) (.agg [.int .i64 0,.int .i64 0,.int .i64 0])=some r:=by
 rw[show (10000:Nat)=9998+1+1 from rfl]
 have hs:Tryz.prog.stoodInHeld 66=false:=by kernel_rfl
 by_cases e1:a=0 <;> by_cases e2:b=0 <;> by_cases e3:c=0 <;> simp(decide:=true)only[push_cast,dEq,dEqs,beq_self_eq_true,hs,e1,e2,e3,decide_false,decide_true,exists_eq']
theorem zeroT_per:zeroT Tryz.prog 66=some (.agg [.int .i64 0,.int .i64 0,.int .i64 0]):=by kernel_rfl
section
variable {n : Nat}
set_option maxHeartbeats 2000000 in
set_option maxRecDepth 100000 in
theorem r04Check_c (hn:1≤n) (f t d:Int) (hf: -9223372036854775808≤f) (ht:t≤9223372036854775807):∃e:Int,(e=0→0≤f∧f≤t∧t<36525∧t-f<800∧1≤d∧d≤127)∧∀st S,callD E (dcall E n) st S 220 [.agg [.int .i64 f,.int .i64 t,.int .i64 d]]=some (.int .i64 e,S):=by
 obtain⟨m,rfl⟩:∃m,n=m+1:=⟨n-1,by omega⟩
 have:WO (dcall E (m+1) 220 [.agg [.int .i64 f,.int .i64 t,.int .i64 d]] []) fun r T=>∃e:Int,r=.int .i64 e∧(e=0→0≤f∧f≤t∧t<36525∧t-f<800∧1≤d∧d≤127):=by
  refine wo_dcall Tryz.func220 rfl (by decide) rfl 32 rfl (fun a hal ha=>?_)
  have h0:a[0]? =some (.agg [.int .i64 f,.int .i64 t,.int .i64 d]):=ha 0 (by simp)
  clear ha
  by_cases c1:f<0
  ·simp(maxSteps:=1000000)(disch:=omega)only[push_cast,decide_not,decide_eq_true_eq,decide_eq_false_iff_not,bne_eq_false_iff_eq,beq_eq_false_iff_ne,gt_iff_lt,ne_eq,not_true_eq_false,not_false_eq_true,hal,h0,c1,ge_iff_le,Tryz.f220,↓WX,simprocAttr]
   exact⟨_,rfl,by omega⟩
  by_cases c2:t<f
  ·simp(maxSteps:=1000000)(disch:=omega)only[push_cast,decide_not,decide_eq_true_eq,decide_eq_false_iff_not,bne_eq_false_iff_eq,beq_eq_false_iff_ne,gt_iff_lt,ne_eq,not_true_eq_false,not_false_eq_true,hal,h0,c1,c2,ge_iff_le,Tryz.f220,↓WX,simprocAttr]
   exact⟨_,rfl,by omega⟩
  by_cases c3:36525≤t
  ·simp(maxSteps:=1000000)(disch:=omega)only[push_cast,decide_not,decide_eq_true_eq,decide_eq_false_iff_not,bne_eq_false_iff_eq,beq_eq_false_iff_ne,gt_iff_lt,ne_eq,not_true_eq_false,not_false_eq_true,hal,h0,c1,c2,c3,ge_iff_le,Tryz.f220,↓WX,simprocAttr]
   exact⟨_,rfl,by omega⟩
  have hw:IntKind.i64.wrap (t-f)=t-f:=wrap_ok (by omega) (by omega)
  by_cases c4:800≤t-f
  ·simp(maxSteps:=1000000)(disch:=omega)only[push_cast,decide_not,decide_eq_true_eq,decide_eq_false_iff_not,bne_eq_false_iff_eq,beq_eq_false_iff_ne,gt_iff_lt,ne_eq,not_true_eq_false,not_false_eq_true,hal,h0,c1,c2,c3,hw,c4,ge_iff_le,Tryz.f220,↓WX,simprocAttr]
   exact⟨_,rfl,by omega⟩
  by_cases c5:d<1
  ·simp(maxSteps:=1000000)(disch:=omega)only[push_cast,decide_not,decide_eq_true_eq,decide_eq_false_iff_not,bne_eq_false_iff_eq,beq_eq_false_iff_ne,gt_iff_lt,ne_eq,not_true_eq_false,not_false_eq_true,hal,h0,c1,c2,c3,hw,c4,c5,ge_iff_le,Tryz.f220,↓WX,simprocAttr]
   exact⟨_,rfl,by omega⟩
  by_cases c6:127<d
  ·simp(maxSteps:=1000000)(disch:=omega)only[push_cast,decide_not,decide_eq_true_eq,decide_eq_false_iff_not,bne_eq_false_iff_eq,beq_eq_false_iff_ne,gt_iff_lt,ne_eq,not_true_eq_false,not_false_eq_true,hal,h0,c1,c2,c3,hw,c4,c5,c6,ge_iff_le,Tryz.f220,↓WX,simprocAttr]
   exact⟨_,rfl,by omega⟩
  simp(maxSteps:=1000000)(disch:=omega)only[push_cast,decide_not,decide_eq_true_eq,decide_eq_false_iff_not,bne_eq_false_iff_eq,beq_eq_false_iff_ne,gt_iff_lt,ne_eq,not_true_eq_false,not_false_eq_true,hal,h0,c1,c2,c3,hw,c4,c5,c6,ge_iff_le,Tryz.f220,↓WX,simprocAttr]
  exact⟨_,rfl,by omega⟩
 obtain⟨_,T,ho,e,rfl,h⟩:=this
 exact⟨e,h,fun st S=>callD_pure rfl rfl ho rfl⟩
theorem list20_c (hn:1≤n) (k:Int):∃b,∀st S,callD E (dcall E n) st S 238 [.int .i64 k]=some (.bool b,S):=by
 obtain⟨m,rfl⟩:∃m,n=m+1:=⟨n-1,by omega⟩
 have:WO (dcall E (m+1) 238 [.int .i64 k] []) fun r T=>∃b,r=.bool b:=by
  refine wo_dcall Tryz.func238 rfl (by decide) rfl 13 rfl (fun a hal ha=>?_)
  have h0:a[0]? =some (.int .i64 k):=ha 0 (by simp)
  clear ha
  by_cases c1:k=2 <;> by_cases c2:k=3 <;> by_cases c3:k=4 <;> first |omega | (simp(maxSteps:=1000000)(disch:=omega)only[push_cast,decide_not,decide_eq_true_eq,decide_eq_false_iff_not,bne_eq_false_iff_eq,beq_eq_false_iff_ne,gt_iff_lt,ne_eq,not_true_eq_false,not_false_eq_true,hal,h0,c1,c2,c3,Tryz.f238,↓WX,simprocAttr];exact⟨_,rfl⟩)
 obtain⟨_,T,ho,b,rfl⟩:=this
 exact⟨b,fun st S=>callD_pure rfl rfl ho rfl⟩
theorem codes20_c (hn:1≤n) (k:Int):∃b,∀st S,callD E (dcall E n) st S 230 [.int .i64 k]=some (.bool b,S):=by
 obtain⟨m,rfl⟩:∃m,n=m+1:=⟨n-1,by omega⟩
 have:WO (dcall E (m+1) 230 [.int .i64 k] []) fun r T=>∃b,r=.bool b:=by
  refine wo_dcall Tryz.func230 rfl (by decide) rfl 13 rfl (fun a hal ha=>?_)
  have h0:a[0]? =some (.int .i64 k):=ha 0 (by simp)
  clear ha
  by_cases c1:k=11 <;> by_cases c2:k=13 <;> by_cases c3:k=14 <;> first |omega | (simp(maxSteps:=1000000)(disch:=omega)only[push_cast,decide_not,decide_eq_true_eq,decide_eq_false_iff_not,bne_eq_false_iff_eq,beq_eq_false_iff_ne,gt_iff_lt,ne_eq,not_true_eq_false,not_false_eq_true,hal,h0,c1,c2,c3,Tryz.f230,↓WX,simprocAttr];exact⟨_,rfl⟩)
 obtain⟨_,T,ho,b,rfl⟩:=this
 exact⟨b,fun st S=>callD_pure rfl rfl ho rfl⟩
theorem period20_c (hn:1≤n) (k:Int):∃b,∀st S,callD E (dcall E n) st S 229 [.int .i64 k]=some (.bool b,S):=by
 obtain⟨m,rfl⟩:∃m,n=m+1:=⟨n-1,by omega⟩
 have:WO (dcall E (m+1) 229 [.int .i64 k] []) fun r T=>∃b,r=.bool b:=by
  refine wo_dcall Tryz.func229 rfl (by decide) rfl 9 rfl (fun a hal ha=>?_)
  have h0:a[0]? =some (.int .i64 k):=ha 0 (by simp)
  clear ha
  by_cases c1:k=5 <;> by_cases c2:k=6 <;> first |omega | (simp(maxSteps:=1000000)(disch:=omega)only[push_cast,decide_not,decide_eq_true_eq,decide_eq_false_iff_not,bne_eq_false_iff_eq,beq_eq_false_iff_ne,gt_iff_lt,ne_eq,not_true_eq_false,not_false_eq_true,hal,h0,c1,c2,Tryz.f229,↓WX,simprocAttr];exact⟨_,rfl⟩)
 obtain⟨_,T,ho,b,rfl⟩:=this
 exact⟨b,fun st S=>callD_pure rfl rfl ho rfl⟩
theorem numbers20_c (hn:1≤n) (k:Int):∃v:Int,(v=0∨v=1∨v=2)∧∀st S,callD E (dcall E n) st S 239 [.int .i64 k]=some (.int .i64 v,S):=by
 obtain⟨m,rfl⟩:∃m,n=m+1:=⟨n-1,by omega⟩
 have:WO (dcall E (m+1) 239 [.int .i64 k] []) fun r T=>∃v:Int,r=.int .i64 v∧(v=0∨v=1∨v=2):=by
  refine wo_dcall Tryz.func239 rfl (by decide) rfl 19 rfl (fun a hal ha=>?_)
  have h0:a[0]? =some (.int .i64 k):=ha 0 (by simp)
  clear ha
  by_cases c1:k=8 <;> by_cases c2:k=12 <;> by_cases c3:k=7 <;> by_cases c4:k=9 <;> by_cases c5:k=10 <;> first |omega | (simp(maxSteps:=1000000)(disch:=omega)only[push_cast,decide_not,decide_eq_true_eq,decide_eq_false_iff_not,bne_eq_false_iff_eq,beq_eq_false_iff_ne,gt_iff_lt,ne_eq,not_true_eq_false,not_false_eq_true,hal,h0,c1,c2,c3,c4,c5,Tryz.f239,↓WX,simprocAttr];exact⟨_,rfl,by omega⟩)
 obtain⟨_,T,ho,v,rfl,h⟩:=this
 exact⟨v,h,fun st S=>callD_pure rfl rfl ho rfl⟩
set_option maxHeartbeats 4000000 in
set_option maxRecDepth 100000 in
theorem extra20_c (hn:2≤n) (c:Cnd):∃b,∀st S,callD E (dcall E n) st S 227 [.agg c.enc]=some (.bool b,S):=by
 obtain⟨m,rfl⟩:∃m,n=m+1:=⟨n-1,by omega⟩
 have hp:=Cnd.pure c
 cases c with |mk k l lx u v pf pt pd t tx=>?_
 simp only[Cnd.enc]at hp ⊢
 obtain⟨b1,cl⟩:=list20_c (n:=m) (by omega) k
 obtain⟨b2,cc⟩:=codes20_c (n:=m) (by omega) k
 obtain⟨b3,cp⟩:=period20_c (n:=m) (by omega) k
 obtain⟨w,hw,cn⟩:=numbers20_c (n:=m) (by omega) k
 obtain⟨b4,he⟩:=eq_per pf pt pd
 have:WO (dcall E (m+1) 227 [.agg [.int .i64 k,.sl 8 (Cnd.encs l) lx,.int .i64 u,.int .i64 v,.int .i64 pf,.int .i64 pt,.int .i64 pd,.sl 1 (t.map Cnd.encT) tx]] []) fun r T=>∃b,r=.bool b:=by
  refine wo_dcall Tryz.func227 rfl (by decide) rfl 57 rfl (fun a hal ha=>?_)
  have h0:a[0]? =some (.agg [.int .i64 k,.sl 8 (Cnd.encs l) lx,.int .i64 u,.int .i64 v,.int .i64 pf,.int .i64 pt,.int .i64 pd,.sl 1 (t.map Cnd.encT) tx]):=ha 0 (by simp)
  clear ha
  by_cases r0:(b1=false∧(0:Int)<(Cnd.encs l).length)∨(b2=false∧(0:Int)<t.length)
  ·cases b1 <;> cases b2 <;> by_cases q1:(0:Int)<(Cnd.encs l).length <;> by_cases q2:(0:Int)<t.length <;> first
    | (exfalso;rcases r0 with ⟨h,h'⟩ | ⟨h,h'⟩ <;> first |exact absurd h (by decide) |exact q1 h' |exact q2 h')
    | (simp(maxSteps:=1000000)(disch:=omega)only[push_cast,decide_not,decide_eq_true_eq,decide_eq_false_iff_not,bne_eq_false_iff_eq,beq_eq_false_iff_ne,gt_iff_lt,ne_eq,not_true_eq_false,not_false_eq_true,hal,h0,cl,cc,q1,q2,dUn,Bool.not_true,Bool.not_false,Tryz.f227,↓WX,simprocAttr]
       exact⟨_,rfl⟩)
  refine wc_scut (fun a T=>T=[Ob.row 8 [[.int .i64 k,.sl 8 (Cnd.encs l) lx,.int .i64 u,.int .i64 v,.int .i64 pf,.int .i64 pt,.int .i64 pd,.sl 1 (t.map Cnd.encT) tx]]]∧a.length=57∧a[1]? =some (.loc 0 0 0)) ?_ ?_
  ·simp(maxSteps:=1000000)(disch:=omega)only[push_cast,decide_not,decide_eq_true_eq,decide_eq_false_iff_not,bne_eq_false_iff_eq,beq_eq_false_iff_ne,gt_iff_lt,ne_eq,not_true_eq_false,not_false_eq_true,hal,h0,↓WX,simprocAttr]
  clear hal h0 a
  rintro a T ⟨rfl,hal,h1⟩
  refine wc_scut (fun a T=>T=[Ob.row 8 [[.int .i64 k,.sl 8 (Cnd.encs l) lx,.int .i64 u,.int .i64 v,.int .i64 pf,.int .i64 pt,.int .i64 pd,.sl 1 (t.map Cnd.encT) tx]]]∧a.length=57∧a[1]? =some (.loc 0 0 0)) ?_ ?_
  ·cases b1 <;> cases b2 <;> by_cases q1:(0:Int)<(Cnd.encs l).length <;> by_cases q2:(0:Int)<t.length <;> first
    | (exfalso;exact r0 (.inl ⟨rfl,q1⟩))
    | (exfalso;exact r0 (.inr ⟨rfl,q2⟩))
    |simp(maxSteps:=1000000)(disch:=omega)only[push_cast,decide_not,decide_eq_true_eq,decide_eq_false_iff_not,bne_eq_false_iff_eq,beq_eq_false_iff_ne,gt_iff_lt,ne_eq,not_true_eq_false,not_false_eq_true,hal,h1,cl,cc,q1,q2,dUn,Bool.not_true,Bool.not_false,↓WX,simprocAttr]
  clear hal h1 a
  rintro a T ⟨rfl,hal,h1⟩
  rcases hw with rfl |rfl |rfl <;> cases b3 <;> cases b4 <;> by_cases q1:u=0 <;> by_cases q2:v=0 <;>
   (simp(maxSteps:=1000000)(disch:=omega)only[push_cast,decide_not,decide_eq_true_eq,decide_eq_false_iff_not,bne_eq_false_iff_eq,beq_eq_false_iff_ne,gt_iff_lt,ne_eq,not_true_eq_false,not_false_eq_true,hal,h1,cp,cn,he,q1,q2,plain_per,dUn,Bool.not_true,Bool.not_false,zeroT_per,Tryz.f227,↓WX,simprocAttr]
    exact⟨_,rfl⟩)
 obtain⟨_,T,ho,b,rfl⟩:=this
 exact⟨b,fun st S=>callD_pure rfl (by rw[pureL_cons,D.pure,hp];rfl) ho rfl⟩
end
end Go.Proofs.YtaklebjoenophaaGreat.Dm
namespace Go.Proofs.YtaklebjoenophaaGreat.Dm
open Go Gw
set_option linter.unusedSimpArgs false
set_option linter.unusedSimpArgs false
section
variable {n : Nat}
set_option maxHeartbeats 4000000 in
set_option maxRecDepth 100000 in
theorem wrong20_c (hn:2≤n) (c:Cnd):∃b,∀st S,callD E (dcall E n) st S 228 [.agg c.enc]=some (.bool b,S):=by
 obtain⟨m,rfl⟩:∃m,n=m+1:=⟨n-1,by omega⟩
 have hp:=Cnd.pure c
 cases c with |mk k l lx u v pf pt pd t tx=>?_
 simp only[Cnd.enc]at hp ⊢
 have:WO (dcall E (m+1) 228 [.agg [.int .i64 k,.sl 8 (Cnd.encs l) lx,.int .i64 u,.int .i64 v,.int .i64 pf,.int .i64 pt,.int .i64 pd,.sl 1 (t.map Cnd.encT) tx]] []) fun r T=>∃b,r=.bool b:=by
  refine wo_dcall Tryz.func228 rfl (by decide) rfl 76 rfl (fun a hal ha=>?_)
  have h0:a[0]? =some (.agg [.int .i64 k,.sl 8 (Cnd.encs l) lx,.int .i64 u,.int .i64 v,.int .i64 pf,.int .i64 pt,.int .i64 pd,.sl 1 (t.map Cnd.encT) tx]):=ha 0 (by simp)
  clear ha
  by_cases k2:k=2
  ·simp(maxSteps:=1000000)(disch:=omega)only[push_cast,decide_not,decide_eq_true_eq,decide_eq_false_iff_not,bne_eq_false_iff_eq,beq_eq_false_iff_ne,gt_iff_lt,ne_eq,not_true_eq_false,not_false_eq_true,hal,h0,k2,Tryz.f228,↓WX,simprocAttr]
   exact⟨_,rfl⟩
  by_cases k3:k=3
  ·simp(maxSteps:=1000000)(disch:=omega)only[push_cast,decide_not,decide_eq_true_eq,decide_eq_false_iff_not,bne_eq_false_iff_eq,beq_eq_false_iff_ne,gt_iff_lt,ne_eq,not_true_eq_false,not_false_eq_true,hal,h0,k3,decide_false,Tryz.f228,↓WX,simprocAttr]
   exact⟨_,rfl⟩
  by_cases k4:k=4
  ·simp(maxSteps:=1000000)(disch:=omega)only[push_cast,decide_not,decide_eq_true_eq,decide_eq_false_iff_not,bne_eq_false_iff_eq,beq_eq_false_iff_ne,gt_iff_lt,ne_eq,not_true_eq_false,not_false_eq_true,hal,h0,k4,decide_false,Tryz.f228,↓WX,simprocAttr]
   exact⟨_,rfl⟩
  by_cases k7:k=7
  ·by_cases c1:u<0 <;> by_cases c2:36525≤u <;>
    (simp(maxSteps:=1000000)(disch:=omega)only[push_cast,decide_not,decide_eq_true_eq,decide_eq_false_iff_not,bne_eq_false_iff_eq,beq_eq_false_iff_ne,gt_iff_lt,ne_eq,not_true_eq_false,not_false_eq_true,hal,h0,k7,c1,c2,decide_false,ge_iff_le,Tryz.f228,↓WX,simprocAttr]
     exact⟨_,rfl⟩)
  by_cases k8:k=8
  ·by_cases c1:u<0 <;> by_cases c2:1440≤u <;> by_cases c3:v<0 <;> by_cases c4:1440≤v <;>
    (simp(maxSteps:=1000000)(disch:=omega)only[push_cast,decide_not,decide_eq_true_eq,decide_eq_false_iff_not,bne_eq_false_iff_eq,beq_eq_false_iff_ne,gt_iff_lt,ne_eq,not_true_eq_false,not_false_eq_true,hal,h0,k8,c1,c2,c3,c4,decide_false,ge_iff_le,Tryz.f228,↓WX,simprocAttr]
     exact⟨_,rfl⟩)
  by_cases k9:k=9
  ·by_cases c1:u<0 <;> by_cases c2:6<u <;>
    (simp(maxSteps:=1000000)(disch:=omega)only[push_cast,decide_not,decide_eq_true_eq,decide_eq_false_iff_not,bne_eq_false_iff_eq,beq_eq_false_iff_ne,gt_iff_lt,ne_eq,not_true_eq_false,not_false_eq_true,hal,h0,k9,c1,c2,decide_false,ge_iff_le,Tryz.f228,↓WX,simprocAttr]
     exact⟨_,rfl⟩)
  by_cases k10:k=10
  ·by_cases c1:u<0 <;> by_cases c2:6<u <;>
    (simp(maxSteps:=1000000)(disch:=omega)only[push_cast,decide_not,decide_eq_true_eq,decide_eq_false_iff_not,bne_eq_false_iff_eq,beq_eq_false_iff_ne,gt_iff_lt,ne_eq,not_true_eq_false,not_false_eq_true,hal,h0,k10,c1,c2,decide_false,ge_iff_le,Tryz.f228,↓WX,simprocAttr]
     exact⟨_,rfl⟩)
  by_cases k12:k=12
  ·by_cases c1:u<1 <;> by_cases c2:v<u <;> by_cases c3:9999<v <;>
    (simp(maxSteps:=1000000)(disch:=omega)only[push_cast,decide_not,decide_eq_true_eq,decide_eq_false_iff_not,bne_eq_false_iff_eq,beq_eq_false_iff_ne,gt_iff_lt,ne_eq,not_true_eq_false,not_false_eq_true,hal,h0,k12,c1,c2,c3,decide_false,ge_iff_le,Tryz.f228,↓WX,simprocAttr]
     exact⟨_,rfl⟩)
  simp(maxSteps:=1000000)(disch:=omega)only[push_cast,decide_not,decide_eq_true_eq,decide_eq_false_iff_not,bne_eq_false_iff_eq,beq_eq_false_iff_ne,gt_iff_lt,ne_eq,not_true_eq_false,not_false_eq_true,hal,h0,k2,k3,k4,k7,k8,k9,k10,k12,decide_false,Tryz.f228,↓WX,simprocAttr]
  exact⟨_,rfl⟩
 obtain⟨_,T,ho,b,rfl⟩:=this
 exact⟨b,fun st S=>callD_pure rfl (by rw[pureL_cons,D.pure,hp];rfl) ho rfl⟩
theorem rCode3_c {s:ByteArray} (hn:s.size+6<n) (hz:s.size≤9223372036854775807):∃b,∀st S,callD E (dcall E n) st S 105 [.str s,.int .i64 3,.int .i64 3]=some (.bool b,S):=by
 obtain⟨m,rfl⟩:∃m,n=m+1:=⟨n-1,by omega⟩
 exact⟨_,fun st S=>callD_pure rfl rfl (eq_of_wo (ref_Code_d (by omega) hz)) rfl⟩
theorem code20_c {s:ByteArray} (hn:s.size+10<n) (hz:s.size≤9223372036854775807) (k:Int):∃b,∀st S,callD E (dcall E n) st S 231 [.int .i64 k,.str s]=some (.bool b,S):=by
 obtain⟨m,rfl⟩:∃m,n=m+1:=⟨n-1,by omega⟩
 have c1:=fun st S=>rCarrier_c (n:=m) (s:=s) (by omega) hz st S
 have c2:=fun st S=>rAirport_c (n:=m) (s:=s) (by omega) hz st S
 obtain⟨b3,c3⟩:=rCode3_c (n:=m) (s:=s) (by omega) hz
 have:WO (dcall E (m+1) 231 [.int .i64 k,.str s] []) fun r T=>∃b,r=.bool b:=by
  refine wo_dcall Tryz.func231 rfl (by decide) rfl 15 rfl (fun a hal ha=>?_)
  have h0:a[0]? =some (.int .i64 k):=ha 0 (by simp)
  have h1:a[1]? =some (.str s):=ha 1 (by simp)
  clear ha
  by_cases k1:k=11
  ·simp(maxSteps:=1000000)(disch:=omega)only[push_cast,decide_not,decide_eq_true_eq,decide_eq_false_iff_not,bne_eq_false_iff_eq,beq_eq_false_iff_ne,gt_iff_lt,ne_eq,not_true_eq_false,not_false_eq_true,hal,h0,h1,k1,c1,Tryz.f231,↓WX,simprocAttr]
   exact⟨_,rfl⟩
  by_cases k2:k=13
  ·simp(maxSteps:=1000000)(disch:=omega)only[push_cast,decide_not,decide_eq_true_eq,decide_eq_false_iff_not,bne_eq_false_iff_eq,beq_eq_false_iff_ne,gt_iff_lt,ne_eq,not_true_eq_false,not_false_eq_true,hal,h0,h1,k2,c2,decide_false,Tryz.f231,↓WX,simprocAttr]
   exact⟨_,rfl⟩
  simp(maxSteps:=1000000)(disch:=omega)only[push_cast,decide_not,decide_eq_true_eq,decide_eq_false_iff_not,bne_eq_false_iff_eq,beq_eq_false_iff_ne,gt_iff_lt,ne_eq,not_true_eq_false,not_false_eq_true,hal,h0,h1,k1,k2,c3,decide_false,Tryz.f231,↓WX,simprocAttr]
  exact⟨_,rfl⟩
 obtain⟨_,T,ho,b,rfl⟩:=this
 exact⟨b,fun st S=>callD_pure rfl rfl ho rfl⟩
set_option maxHeartbeats 2000000 in
theorem has20_c {l:List ByteArray} {lx:Bool} (hl:l.length≤1048576) (hn:1048580≤n) (s:ByteArray):∃b,∀st S,callD E (dcall E n) st S 190 [.sl 1 (l.map Cnd.encT) lx,.str s]=some (.bool b,S):=by
 obtain⟨m,rfl⟩:∃m,n=m+1:=⟨n-1,by omega⟩
 have:WO (dcall E (m+1) 190 [.sl 1 (l.map Cnd.encT) lx,.str s] []) fun r T=>∃b,r=.bool b:=by
  refine wo_dcall Tryz.func190 rfl (by decide) rfl 18 rfl (fun a hal ha=>?_)
  have h0:a[0]? =some (.sl 1 (l.map Cnd.encT) lx):=ha 0 (by simp)
  have h1:a[1]? =some (.str s):=ha 1 (by simp)
  clear ha
  simp(maxSteps:=1000000)(disch:=omega)only[push_cast,decide_not,decide_eq_true_eq,decide_eq_false_iff_not,bne_eq_false_iff_eq,beq_eq_false_iff_ne,gt_iff_lt,ne_eq,not_true_eq_false,not_false_eq_true,hal,h0,h1,↓WX,simprocAttr]
  refine wl_loop (fun i a T=>a.length=18∧a[0]? =some (.sl 1 (l.map Cnd.encT) lx)∧a[1]? =some (.str s)∧a[5]? =some (.int .i64 i)) l.length ?_ (by omega) ?_
  ·simp(maxSteps:=1000000)(disch:=omega)only[push_cast,decide_not,decide_eq_true_eq,decide_eq_false_iff_not,bne_eq_false_iff_eq,beq_eq_false_iff_ne,gt_iff_lt,ne_eq,not_true_eq_false,not_false_eq_true,hal,h0,h1,Int.natCast_zero,↓WX,simprocAttr]
  clear hal h0 h1 a
  rintro i a T hi ⟨hal,h0,h1,h5⟩
  rcases Nat.lt_or_eq_of_le hi with hlt |rfl
  case inr=>
   simp(maxSteps:=1000000)(disch:=omega)only[push_cast,decide_not,decide_eq_true_eq,decide_eq_false_iff_not,bne_eq_false_iff_eq,beq_eq_false_iff_ne,gt_iff_lt,ne_eq,not_true_eq_false,not_false_eq_true,hal,h0,h1,h5,Int.lt_irrefl,Tryz.f190,↓WX,simprocAttr]
   exact⟨_,rfl⟩
  obtain⟨x,hx⟩:∃x,l[i]? =some x:=⟨l[i],by simp⟩
  have hltc:(i:Int)<l.length:=by omega
  by_cases q:x=s
  ·simp(maxSteps:=1000000)(disch:=omega)only[push_cast,decide_not,decide_eq_true_eq,decide_eq_false_iff_not,bne_eq_false_iff_eq,beq_eq_false_iff_ne,gt_iff_lt,ne_eq,not_true_eq_false,not_false_eq_true,hal,h0,h1,h5,hltc,hlt,hx,q,str_eq,Tryz.f190,↓WX,simprocAttr]
   exact⟨_,rfl⟩
  ·simp(maxSteps:=1000000)(disch:=omega)only[push_cast,decide_not,decide_eq_true_eq,decide_eq_false_iff_not,bne_eq_false_iff_eq,beq_eq_false_iff_ne,gt_iff_lt,ne_eq,not_true_eq_false,not_false_eq_true,hal,h0,h1,h5,hltc,hlt,hx,q,str_eq,wrap_ok,Int.natCast_add,Int.natCast_one,↓WX,simprocAttr]
 obtain⟨_,T,ho,b,rfl⟩:=this
 exact⟨b,fun st S=>callD_pure rfl (by simp[pureL_cons,pureL_nil,D.pure,Cnd.encT_pure]) ho rfl⟩
end
end Go.Proofs.YtaklebjoenophaaGreat.Dm
