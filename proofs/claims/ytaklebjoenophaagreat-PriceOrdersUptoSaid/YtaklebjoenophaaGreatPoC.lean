/-
  Small functions that a price asks: near, times, covers; local times, days; surcharges.
  The reference's percentages and surcharges: they answer.
-/
import Derived.Test.YtaklebjoenophaaGreatPoA
set_option linter.unusedSimpArgs false
set_option linter.unusedVariables false
namespace Go.Proofs.YtaklebjoenophaaGreat.Dm
open Go Gw
set_option linter.unusedSimpArgs false
set_option linter.unusedSimpArgs false
structure Wnt where
 car:ByteArray
 num:Int
 day:Int
 fr:ByteArray
 to:ByteArray
 dep:Int
 arr:Int
 cls:ByteArray
def Wnt.enc (w:Wnt):List D:=[.str w.car,.int .i64 w.num,.int .i64 w.day,.str w.fr,.str w.to,.int .i64 w.dep,.int .i64 w.arr,.str w.cls]
theorem Wnt_pure (r:Wnt):pureL r.enc=true:=rfl
theorem Wnts_pure (l:List Wnt):pureLL (l.map Wnt.enc)=true:=by
 induction l with
 |nil=>rfl
 |cons f fs ih=>rw[List.map_cons,pureLL_cons,ih,Wnt_pure];rfl
def Wnt.tm (w:Wnt):Prop:=0≤w.dep∧w.dep<52596000∧0≤w.arr∧w.arr<52596000
def cvF:List Prt→Int→Int→Bool
 | [],k,n=>decide (k=n)
 |x::xs,k,n=>if x.fr=k∧k<x.to∧x.to≤n then cvF xs x.to n else false
theorem cvF_drop {l:List Prt} {i:Nat} {x:Prt} (hx:l[i]? =some x) (k n:Int):cvF (l.drop i) k n=if x.fr=k∧k<x.to∧x.to≤n then cvF (l.drop (i+1)) x.to n else false:=by
 obtain⟨ha,rfl⟩:=List.getElem?_eq_some_iff.1 hx
 rw[List.drop_eq_getElem_cons ha]
 rfl
section
variable {n : Nat}
set_option maxHeartbeats 2000000 in
theorem near28_c (hn:1≤n) (x:Int):∃b,(b=true→ -1099511627776≤x∧x≤1099511627776)∧∀st S,callD E (dcall E n) st S 18 [.int .i64 x]=some (.bool b,S):=by
 obtain⟨m,rfl⟩:∃m,n=m+1:=⟨n-1,by omega⟩
 have:WO (dcall E (m+1) 18 [.int .i64 x] []) fun r T=>∃b,r=.bool b∧(b=true→ -1099511627776≤x∧x≤1099511627776):=by
  refine wo_dcall Tryz.func18 rfl (by decide) rfl 9 rfl (fun a hal ha=>?_)
  have h0:a[0]? =some (.int .i64 x):=ha 0 (by simp)
  clear ha
  by_cases c1:x≥ -1099511627776
  case neg=>
   have d1:decide (x≥ -1099511627776)=false:=decide_eq_false c1
   simp(maxSteps:=1000000)(disch:=omega)only[push_cast,decide_not,decide_eq_true_eq,decide_eq_false_iff_not,bne_eq_false_iff_eq,beq_eq_false_iff_ne,gt_iff_lt,ne_eq,not_true_eq_false,not_false_eq_true,hal,h0,d1,Tryz.f18,↓WX,simprocAttr]
   exact⟨_,rfl,fun h=>by cases h⟩
  have d1:decide (x≥ -1099511627776)=true:=decide_eq_true c1
  by_cases c2:x≤1099511627776
  case neg=>
   have d2:decide (x≤1099511627776)=false:=decide_eq_false c2
   simp(maxSteps:=1000000)(disch:=omega)only[push_cast,decide_not,decide_eq_true_eq,decide_eq_false_iff_not,bne_eq_false_iff_eq,beq_eq_false_iff_ne,gt_iff_lt,ne_eq,not_true_eq_false,not_false_eq_true,hal,h0,d1,d2,Tryz.f18,↓WX,simprocAttr]
   exact⟨_,rfl,fun h=>by cases h⟩
  have d2:decide (x≤1099511627776)=true:=decide_eq_true c2
  simp(maxSteps:=1000000)(disch:=omega)only[push_cast,decide_not,decide_eq_true_eq,decide_eq_false_iff_not,bne_eq_false_iff_eq,beq_eq_false_iff_ne,gt_iff_lt,ne_eq,not_true_eq_false,not_false_eq_true,hal,h0,d1,d2,Tryz.f18,↓WX,simprocAttr]
  exact⟨_,rfl,fun _=>⟨c1,c2⟩⟩
 obtain⟨_,T,ho,b,rfl,hb⟩:=this
 exact⟨b,hb,fun st S=>callD_pure rfl rfl ho rfl⟩
set_option maxHeartbeats 8000000 in
set_option maxRecDepth 100000 in
theorem times28_c (l:List Wnt) (lx:Bool) (hl:l.length≤1048576) (hn:1048580≤n):∃b,(b=true→∀w∈l,w.tm)∧∀st S,callD E (dcall E n) st S 19 [.sl 8 (l.map Wnt.enc) lx]=some (.bool b,S):=by
 obtain⟨m,rfl⟩:∃m,n=m+1:=⟨n-1,by omega⟩
 have:WO (dcall E (m+1) 19 [.sl 8 (l.map Wnt.enc) lx] []) fun r T=>∃b,r=.bool b∧(b=true→∀w∈l,w.tm):=by
  refine wo_dcall Tryz.func19 rfl (by decide) rfl 44 rfl (fun a hal ha=>?_)
  have h0:a[0]? =some (.sl 8 (l.map Wnt.enc) lx):=ha 0 (by simp)
  clear ha
  simp(maxSteps:=1000000)(disch:=omega)only[push_cast,decide_not,decide_eq_true_eq,decide_eq_false_iff_not,bne_eq_false_iff_eq,beq_eq_false_iff_ne,gt_iff_lt,ne_eq,not_true_eq_false,not_false_eq_true,hal,h0,↓WX,simprocAttr]
  refine wl_loop (fun i a T=>(T=[]∧∀w∈l.take i,w.tm)∧a.length=44∧a[0]? =some (.sl 8 (l.map Wnt.enc) lx)∧a[3]? =some (.int .i64 i)) l.length ?_ (by omega) ?_
  ·simp(maxSteps:=1000000)(disch:=omega)only[push_cast,decide_not,decide_eq_true_eq,decide_eq_false_iff_not,bne_eq_false_iff_eq,beq_eq_false_iff_ne,gt_iff_lt,ne_eq,not_true_eq_false,not_false_eq_true,hal,h0,Int.natCast_zero,↓WX,simprocAttr]
   exact fun w hw=>by cases hw
  clear hal h0 a
  rintro i a T hi ⟨⟨rfl,e⟩,hal,h0,h3⟩
  rcases Nat.lt_or_eq_of_le hi with hlt |rfl
  case inr=>
   simp(maxSteps:=1000000)(disch:=omega)only[push_cast,decide_not,decide_eq_true_eq,decide_eq_false_iff_not,bne_eq_false_iff_eq,beq_eq_false_iff_ne,gt_iff_lt,ne_eq,not_true_eq_false,not_false_eq_true,hal,h0,h3,Int.lt_irrefl,Tryz.f19,↓WX,simprocAttr]
   exact⟨_,rfl,fun _=>by rw[List.take_length]at e;exact e⟩
  have hltc:(i:Int)<l.length:=by omega
  obtain⟨x,hx⟩:∃x,l[i]? =some x:=⟨l[i],by simp⟩
  by_cases c1:x.dep<0
  ·have d1:decide (x.dep<0)=true:=decide_eq_true c1
   simp(maxSteps:=1000000)(disch:=omega)only[push_cast,decide_not,decide_eq_true_eq,decide_eq_false_iff_not,bne_eq_false_iff_eq,beq_eq_false_iff_ne,gt_iff_lt,ne_eq,not_true_eq_false,not_false_eq_true,hal,h0,h3,hltc,hlt,hx,d1,Wnt.enc,Tryz.f19,↓WX,simprocAttr]
   exact⟨_,rfl,fun h=>by cases h⟩
  have d1:decide (x.dep<0)=false:=decide_eq_false c1
  by_cases c2:x.dep≥52596000
  ·have d2:decide (x.dep≥52596000)=true:=decide_eq_true c2
   simp(maxSteps:=1000000)(disch:=omega)only[push_cast,decide_not,decide_eq_true_eq,decide_eq_false_iff_not,bne_eq_false_iff_eq,beq_eq_false_iff_ne,gt_iff_lt,ne_eq,not_true_eq_false,not_false_eq_true,hal,h0,h3,hltc,hlt,hx,d1,d2,Wnt.enc,Tryz.f19,↓WX,simprocAttr]
   exact⟨_,rfl,fun h=>by cases h⟩
  have d2:decide (x.dep≥52596000)=false:=decide_eq_false c2
  by_cases c3:x.arr<0
  ·have d3:decide (x.arr<0)=true:=decide_eq_true c3
   simp(maxSteps:=1000000)(disch:=omega)only[push_cast,decide_not,decide_eq_true_eq,decide_eq_false_iff_not,bne_eq_false_iff_eq,beq_eq_false_iff_ne,gt_iff_lt,ne_eq,not_true_eq_false,not_false_eq_true,hal,h0,h3,hltc,hlt,hx,d1,d2,d3,Wnt.enc,Tryz.f19,↓WX,simprocAttr]
   exact⟨_,rfl,fun h=>by cases h⟩
  have d3:decide (x.arr<0)=false:=decide_eq_false c3
  by_cases c4:x.arr≥52596000
  ·have d4:decide (x.arr≥52596000)=true:=decide_eq_true c4
   simp(maxSteps:=1000000)(disch:=omega)only[push_cast,decide_not,decide_eq_true_eq,decide_eq_false_iff_not,bne_eq_false_iff_eq,beq_eq_false_iff_ne,gt_iff_lt,ne_eq,not_true_eq_false,not_false_eq_true,hal,h0,h3,hltc,hlt,hx,d1,d2,d3,d4,Wnt.enc,Tryz.f19,↓WX,simprocAttr]
   exact⟨_,rfl,fun h=>by cases h⟩
  have d4:decide (x.arr≥52596000)=false:=decide_eq_false c4
  simp(maxSteps:=1000000)(disch:=omega)only[push_cast,decide_not,decide_eq_true_eq,decide_eq_false_iff_not,bne_eq_false_iff_eq,beq_eq_false_iff_ne,gt_iff_lt,ne_eq,not_true_eq_false,not_false_eq_true,hal,h0,h3,hltc,hlt,hx,d1,d2,d3,d4,Wnt.enc,wrap_ok,Int.natCast_add,Int.natCast_one,↓WX,simprocAttr]
  intro w hw
  rw[List.take_add_one,hx]at hw
  rcases List.mem_append.1 hw with hw |hw
  ·exact e w hw
  ·obtain rfl:w=x:=by simpa using hw
   exact⟨by omega,by omega,by omega,by omega⟩
 obtain⟨_,T,ho,b,rfl,hb⟩:=this
 exact⟨b,hb,fun st S=>callD_pure rfl (by simp only[pureL_cons,pureL_nil,D.pure,Wnts_pure,Bool.and_true]) ho rfl⟩
set_option maxHeartbeats 8000000 in
set_option maxRecDepth 100000 in
theorem covers28_c (l:List Prt) (lx:Bool) (k:Int) (hl:l.length≤1048576) (hn:1048580≤n):∀st S,callD E (dcall E n) st S 32 [.sl 4 (l.map Prt.enc) lx,.int .i64 k]=some (.bool (cvF l 0 k),S):=by
 obtain⟨m,rfl⟩:∃m,n=m+1:=⟨n-1,by omega⟩
 have:WO (dcall E (m+1) 32 [.sl 4 (l.map Prt.enc) lx,.int .i64 k] []) fun r T=>r=.bool (cvF l 0 k):=by
  refine wo_dcall Tryz.func32 rfl (by decide) rfl 46 rfl (fun a hal ha=>?_)
  have h0:a[0]? =some (.sl 4 (l.map Prt.enc) lx):=ha 0 (by simp)
  have h1:a[1]? =some (.int .i64 k):=ha 1 (by simp)
  clear ha
  simp(maxSteps:=1000000)(disch:=omega)only[push_cast,decide_not,decide_eq_true_eq,decide_eq_false_iff_not,bne_eq_false_iff_eq,beq_eq_false_iff_ne,gt_iff_lt,ne_eq,not_true_eq_false,not_false_eq_true,hal,h0,h1,↓WX,simprocAttr]
  refine wl_loop (fun i a T=>(T=[]∧∃t:Int,a[5]? =some (.int .i64 t)∧cvF l 0 k=cvF (l.drop i) t k)∧a.length=46∧a[0]? =some (.sl 4 (l.map Prt.enc) lx)∧a[1]? =some (.int .i64 k)∧a[6]? =some (.int .i64 i)) l.length ?_ (by omega) ?_
  ·simp(maxSteps:=1000000)(disch:=omega)only[push_cast,decide_not,decide_eq_true_eq,decide_eq_false_iff_not,bne_eq_false_iff_eq,beq_eq_false_iff_ne,gt_iff_lt,ne_eq,not_true_eq_false,not_false_eq_true,hal,h0,h1,Int.natCast_zero,↓WX,simprocAttr]
   exact⟨_,rfl,rfl⟩
  clear hal h0 h1 a
  rintro i a T hi ⟨⟨rfl,t,h5,e⟩,hal,h0,h1,h6⟩
  rcases Nat.lt_or_eq_of_le hi with hlt |rfl
  case inr=>
   simp(maxSteps:=1000000)(disch:=omega)only[push_cast,decide_not,decide_eq_true_eq,decide_eq_false_iff_not,bne_eq_false_iff_eq,beq_eq_false_iff_ne,gt_iff_lt,ne_eq,not_true_eq_false,not_false_eq_true,hal,h0,h1,h5,h6,Int.lt_irrefl,Tryz.f32,↓WX,simprocAttr]
   rw[e,List.drop_of_length_le (Nat.le_refl _)]
   rfl
  have hltc:(i:Int)<l.length:=by omega
  obtain⟨x,hx⟩:∃x,l[i]? =some x:=⟨l[i],by simp⟩
  rw[cvF_drop hx]at e
  by_cases c1:x.fr=t
  case neg=>
   have d1:decide (x.fr=t)=false:=decide_eq_false c1
   rw[if_neg (fun h=>c1 h.1)]at e
   simp(maxSteps:=1000000)(disch:=omega)only[push_cast,decide_not,decide_eq_true_eq,decide_eq_false_iff_not,bne_eq_false_iff_eq,beq_eq_false_iff_ne,gt_iff_lt,ne_eq,not_true_eq_false,not_false_eq_true,hal,h0,h1,h5,h6,hltc,hlt,hx,d1,Bool.not_false,Prt.enc,Tryz.f32,↓WX,simprocAttr]
   rw[e]
  have d1:decide (x.fr=t)=true:=decide_eq_true c1
  by_cases c2:x.to≤t
  ·have d2:decide (x.to≤t)=true:=decide_eq_true c2
   rw[if_neg (fun h=>by omega)]at e
   simp(maxSteps:=1000000)(disch:=omega)only[push_cast,decide_not,decide_eq_true_eq,decide_eq_false_iff_not,bne_eq_false_iff_eq,beq_eq_false_iff_ne,gt_iff_lt,ne_eq,not_true_eq_false,not_false_eq_true,hal,h0,h1,h5,h6,hltc,hlt,hx,d1,d2,Bool.not_true,Prt.enc,Tryz.f32,↓WX,simprocAttr]
   rw[e]
  have d2:decide (x.to≤t)=false:=decide_eq_false c2
  by_cases c3:x.to>k
  ·have d3:decide (x.to>k)=true:=decide_eq_true c3
   rw[if_neg (fun h=>by omega)]at e
   simp(maxSteps:=1000000)(disch:=omega)only[push_cast,decide_not,decide_eq_true_eq,decide_eq_false_iff_not,bne_eq_false_iff_eq,beq_eq_false_iff_ne,gt_iff_lt,ne_eq,not_true_eq_false,not_false_eq_true,hal,h0,h1,h5,h6,hltc,hlt,hx,d1,d2,d3,Bool.not_true,Prt.enc,Tryz.f32,↓WX,simprocAttr]
   rw[e]
  have d3:decide (x.to>k)=false:=decide_eq_false c3
  rw[if_pos ⟨c1,by omega,by omega⟩]at e
  simp(maxSteps:=1000000)(disch:=omega)only[push_cast,decide_not,decide_eq_true_eq,decide_eq_false_iff_not,bne_eq_false_iff_eq,beq_eq_false_iff_ne,gt_iff_lt,ne_eq,not_true_eq_false,not_false_eq_true,hal,h0,h1,h5,h6,hltc,hlt,hx,d1,d2,d3,Bool.not_true,Prt.enc,wrap_ok,Int.natCast_add,Int.natCast_one,↓WX,simprocAttr]
  exact⟨_,rfl,e⟩
 obtain⟨_,T,ho,rfl⟩:=this
 exact fun st S=>callD_pure rfl (by simp only[pureL_cons,pureL_nil,D.pure,Prts_pure,Bool.and_true]) ho rfl
end
end Go.Proofs.YtaklebjoenophaaGreat.Dm
namespace Go.Proofs.YtaklebjoenophaaGreat.Dm
open Go Gw
set_option linter.unusedSimpArgs false
set_option linter.unusedSimpArgs false
section
variable {n : Nat}
set_option maxHeartbeats 2000000 in
theorem amount02_c (hn:1≤n) (x:Int):∃b,(b=true→ -1099511627776≤x∧x≤1099511627776)∧∀st S,callD E (dcall E n) st S 193 [.int .i64 x]=some (.bool b,S):=by
 obtain⟨m,rfl⟩:∃m,n=m+1:=⟨n-1,by omega⟩
 have:WO (dcall E (m+1) 193 [.int .i64 x] []) fun r T=>∃b,r=.bool b∧(b=true→ -1099511627776≤x∧x≤1099511627776):=by
  refine wo_dcall Tryz.func193 rfl (by decide) rfl 9 rfl (fun a hal ha=>?_)
  have h0:a[0]? =some (.int .i64 x):=ha 0 (by simp)
  clear ha
  by_cases c1:x≥ -1099511627776
  case neg=>
   have d1:decide (x≥ -1099511627776)=false:=decide_eq_false c1
   simp(maxSteps:=1000000)(disch:=omega)only[push_cast,decide_not,decide_eq_true_eq,decide_eq_false_iff_not,bne_eq_false_iff_eq,beq_eq_false_iff_ne,gt_iff_lt,ne_eq,not_true_eq_false,not_false_eq_true,hal,h0,d1,Tryz.f193,↓WX,simprocAttr]
   exact⟨_,rfl,fun h=>by cases h⟩
  have d1:decide (x≥ -1099511627776)=true:=decide_eq_true c1
  by_cases c2:x≤1099511627776
  case neg=>
   have d2:decide (x≤1099511627776)=false:=decide_eq_false c2
   simp(maxSteps:=1000000)(disch:=omega)only[push_cast,decide_not,decide_eq_true_eq,decide_eq_false_iff_not,bne_eq_false_iff_eq,beq_eq_false_iff_ne,gt_iff_lt,ne_eq,not_true_eq_false,not_false_eq_true,hal,h0,d1,d2,Tryz.f193,↓WX,simprocAttr]
   exact⟨_,rfl,fun h=>by cases h⟩
  have d2:decide (x≤1099511627776)=true:=decide_eq_true c2
  simp(maxSteps:=1000000)(disch:=omega)only[push_cast,decide_not,decide_eq_true_eq,decide_eq_false_iff_not,bne_eq_false_iff_eq,beq_eq_false_iff_ne,gt_iff_lt,ne_eq,not_true_eq_false,not_false_eq_true,hal,h0,d1,d2,Tryz.f193,↓WX,simprocAttr]
  exact⟨_,rfl,fun _=>⟨c1,c2⟩⟩
 obtain⟨_,T,ho,b,rfl,hb⟩:=this
 exact⟨b,hb,fun st S=>callD_pure rfl rfl ho rfl⟩
set_option maxHeartbeats 2000000 in
theorem floor02_c (hn:1≤n) (x y:Int) (hy:0<y):∃q r:Int,∀st S,callD E (dcall E n) st S 194 [.int .i64 x,.int .i64 y]=some (.tup [.int .i64 q,.int .i64 r],S):=by
 obtain⟨m,rfl⟩:∃m,n=m+1:=⟨n-1,by omega⟩
 have:WO (dcall E (m+1) 194 [.int .i64 x,.int .i64 y] []) fun r T=>∃p q:Int,r=.tup [.int .i64 p,.int .i64 q]:=by
  refine wo_dcall Tryz.func194 rfl (by decide) rfl 23 rfl (fun a hal ha=>?_)
  have h0:a[0]? =some (.int .i64 x):=ha 0 (by simp)
  have h1:a[1]? =some (.int .i64 y):=ha 1 (by simp)
  clear ha
  have hy0:¬y=0:=by omega
  by_cases c1:x.tmod y<0
  ·simp(maxSteps:=1000000)(disch:=omega)only[push_cast,decide_not,decide_eq_true_eq,decide_eq_false_iff_not,bne_eq_false_iff_eq,beq_eq_false_iff_ne,gt_iff_lt,ne_eq,not_true_eq_false,not_false_eq_true,hal,h0,h1,hy0,c1,Tryz.f194,↓WX,simprocAttr]
   exact⟨_,_,rfl⟩
  ·simp(maxSteps:=1000000)(disch:=omega)only[push_cast,decide_not,decide_eq_true_eq,decide_eq_false_iff_not,bne_eq_false_iff_eq,beq_eq_false_iff_ne,gt_iff_lt,ne_eq,not_true_eq_false,not_false_eq_true,hal,h0,h1,hy0,c1,Tryz.f194,↓WX,simprocAttr]
   exact⟨_,_,rfl⟩
 obtain⟨_,T,ho,q,r,rfl⟩:=this
 exact⟨q,r,fun st S=>callD_pure rfl rfl ho rfl⟩
set_option maxHeartbeats 2000000 in
theorem size02_c (hn:1≤n) (x:Int):∃z:Int,((-1099511627776≤x∧x≤1099511627776∧x≠0)→0<z)∧∀st S,callD E (dcall E n) st S 195 [.int .i64 x]=some (.int .i64 z,S):=by
 obtain⟨m,rfl⟩:∃m,n=m+1:=⟨n-1,by omega⟩
 have:WO (dcall E (m+1) 195 [.int .i64 x] []) fun r T=>∃z:Int,r=.int .i64 z∧((-1099511627776≤x∧x≤1099511627776∧x≠0)→0<z):=by
  refine wo_dcall Tryz.func195 rfl (by decide) rfl 8 rfl (fun a hal ha=>?_)
  have h0:a[0]? =some (.int .i64 x):=ha 0 (by simp)
  clear ha
  by_cases c1:x<0
  ·simp(maxSteps:=1000000)(disch:=omega)only[push_cast,decide_not,decide_eq_true_eq,decide_eq_false_iff_not,bne_eq_false_iff_eq,beq_eq_false_iff_ne,gt_iff_lt,ne_eq,not_true_eq_false,not_false_eq_true,hal,h0,c1,Tryz.f195,↓WX,simprocAttr]
   refine⟨_,rfl,fun h=>?_⟩
   rw[wrap_ok (by omega) (by omega)]
   omega
  ·simp(maxSteps:=1000000)(disch:=omega)only[push_cast,decide_not,decide_eq_true_eq,decide_eq_false_iff_not,bne_eq_false_iff_eq,beq_eq_false_iff_ne,gt_iff_lt,ne_eq,not_true_eq_false,not_false_eq_true,hal,h0,c1,Tryz.f195,↓WX,simprocAttr]
   exact⟨_,rfl,fun h=>by omega⟩
 obtain⟨_,T,ho,z,rfl,hz⟩:=this
 exact⟨z,hz,fun st S=>callD_pure rfl rfl ho rfl⟩
set_option maxHeartbeats 8000000 in
set_option maxRecDepth 100000 in
theorem percent02_c (hn:2≤n) (x y:Int):∃q e:Int,∀st S,callD E (dcall E n) st S 143 [.int .i64 x,.int .i64 y]=some (.tup [.int .i64 q,.int .i64 e],S):=by
 obtain⟨m,rfl⟩:∃m,n=m+1:=⟨n-1,by omega⟩
 obtain⟨b1,hb1,k1⟩:=amount02_c (n:=m) (by omega) x
 obtain⟨b2,hb2,k2⟩:=amount02_c (n:=m) (by omega) y
 obtain⟨q1,r1,k3⟩:=floor02_c (n:=m) (by omega) y 10000 (by omega)
 obtain⟨z1,hz1,k4⟩:=size02_c (n:=m) (by omega) q1
 obtain⟨z2,hz2,k5⟩:=size02_c (n:=m) (by omega) x
 have:WO (dcall E (m+1) 143 [.int .i64 x,.int .i64 y] []) fun r T=>∃p q:Int,r=.tup [.int .i64 p,.int .i64 q]:=by
  refine wo_dcall Tryz.func143 rfl (by decide) rfl 54 rfl (fun a hal ha=>?_)
  have h0:a[0]? =some (.int .i64 x):=ha 0 (by simp)
  have h1:a[1]? =some (.int .i64 y):=ha 1 (by simp)
  clear ha
  cases b1
  ·simp(maxSteps:=1000000)(disch:=omega)only[push_cast,decide_not,decide_eq_true_eq,decide_eq_false_iff_not,bne_eq_false_iff_eq,beq_eq_false_iff_ne,gt_iff_lt,ne_eq,not_true_eq_false,not_false_eq_true,hal,h0,h1,k1,Bool.not_false,Tryz.f143,↓WX,simprocAttr]
   exact⟨_,_,rfl⟩
  cases b2
  ·simp(maxSteps:=1000000)(disch:=omega)only[push_cast,decide_not,decide_eq_true_eq,decide_eq_false_iff_not,bne_eq_false_iff_eq,beq_eq_false_iff_ne,gt_iff_lt,ne_eq,not_true_eq_false,not_false_eq_true,hal,h0,h1,k1,k2,Bool.not_false,Bool.not_true,Tryz.f143,↓WX,simprocAttr]
   exact⟨_,_,rfl⟩
  have hx:=hb1 rfl
  refine wc_scut (fun a V=>V=[]∧a.length=54∧a[0]? =some (.int .i64 x)∧a[1]? =some (.int .i64 y)) ?_ ?_
  ·simp(maxSteps:=1000000)(disch:=omega)only[push_cast,decide_not,decide_eq_true_eq,decide_eq_false_iff_not,bne_eq_false_iff_eq,beq_eq_false_iff_ne,gt_iff_lt,ne_eq,not_true_eq_false,not_false_eq_true,hal,h0,h1,↓WX,simprocAttr]
  clear hal h0 h1 a
  rintro a V ⟨rfl,hal,h0,h1⟩
  refine wc_scut (fun a V=>V=[]∧a.length=54∧a[0]? =some (.int .i64 x)∧a[1]? =some (.int .i64 y)) ?_ ?_
  ·simp(maxSteps:=1000000)(disch:=omega)only[push_cast,decide_not,decide_eq_true_eq,decide_eq_false_iff_not,bne_eq_false_iff_eq,beq_eq_false_iff_ne,gt_iff_lt,ne_eq,not_true_eq_false,not_false_eq_true,hal,h0,h1,k1,k2,Bool.not_true,↓WX,simprocAttr]
  clear hal h0 h1 a
  rintro a V ⟨rfl,hal,h0,h1⟩
  refine wc_scut (fun a V=>V=[]∧a.length=54∧a[0]? =some (.int .i64 x)∧a[1]? =some (.int .i64 y)∧a[6]? =some (.int .i64 q1)∧a[7]? =some (.int .i64 r1)) ?_ ?_
  ·simp(maxSteps:=1000000)(disch:=omega)only[push_cast,decide_not,decide_eq_true_eq,decide_eq_false_iff_not,bne_eq_false_iff_eq,beq_eq_false_iff_ne,gt_iff_lt,ne_eq,not_true_eq_false,not_false_eq_true,hal,h0,h1,k3,↓WX,simprocAttr]
  clear hal h0 h1 a
  rintro a V ⟨rfl,hal,h0,h1,h6,h7⟩
  obtain⟨fq,fr,hf⟩:∃fq fr:Int→Int,∀(x:Int) st S,callD E (dcall E m) st S 194 [.int .i64 x,.int .i64 20000]=some (.tup [.int .i64 (fq x),.int .i64 (fr x)],S):=
   ⟨fun x=>(floor02_c (n:=m) (by omega) x 20000 (by omega)).choose,fun x=>(floor02_c (n:=m) (by omega) x 20000 (by omega)).choose_spec.choose,fun x=>(floor02_c (n:=m) (by omega) x 20000 (by omega)).choose_spec.choose_spec⟩
  obtain⟨fb,hfb⟩:∃fb:Int→Bool,∀(x:Int) st S,callD E (dcall E m) st S 193 [.int .i64 x]=some (.bool (fb x),S):=
   ⟨fun x=>(amount02_c (n:=m) (by omega) x).choose,fun x=>(amount02_c (n:=m) (by omega) x).choose_spec.2⟩
  have hz0:x≠0→¬z2=0:=fun h=>by have:=hz2 ⟨by omega,by omega,h⟩;omega
  by_cases c3:x=0
  ·have d3:decide (x=0)=true:=decide_eq_true c3
   refine wc_scut (fun a V=>V=[]∧a.length=54∧a[0]? =some (.int .i64 x)∧a[6]? =some (.int .i64 q1)∧a[7]? =some (.int .i64 r1)) ?_ ?_
   ·simp(maxSteps:=1000000)(disch:=omega)only[push_cast,decide_not,decide_eq_true_eq,decide_eq_false_iff_not,bne_eq_false_iff_eq,beq_eq_false_iff_ne,gt_iff_lt,ne_eq,not_true_eq_false,not_false_eq_true,hal,h0,h1,h6,h7,d3,Bool.not_true,↓WX,simprocAttr]
   clear hal h0 h1 h6 h7 a
   rintro a V ⟨rfl,hal,h0,h6,h7⟩
   refine wc_scut (fun a V=>V=[]∧(∃z,a[8]? =some (.int .i64 z))∧a.length=54∧a[0]? =some (.int .i64 x)∧a[6]? =some (.int .i64 q1)) ?_ ?_
   ·simp(maxSteps:=1000000)(disch:=omega)only[push_cast,decide_not,decide_eq_true_eq,decide_eq_false_iff_not,bne_eq_false_iff_eq,beq_eq_false_iff_ne,gt_iff_lt,ne_eq,not_true_eq_false,not_false_eq_true,hal,h0,h6,h7,hf,↓WX,simprocAttr]
    exact⟨_,rfl⟩
   clear hal h0 h6 h7 a
   rintro a V ⟨rfl,⟨z,h8⟩,hal,h0,h6⟩
   cases e:fb (IntKind.i64.wrap (IntKind.i64.wrap (x*q1)+z))
   ·simp(maxSteps:=1000000)(disch:=omega)only[push_cast,decide_not,decide_eq_true_eq,decide_eq_false_iff_not,bne_eq_false_iff_eq,beq_eq_false_iff_ne,gt_iff_lt,ne_eq,not_true_eq_false,not_false_eq_true,hal,h0,h6,h8,hfb,e,Bool.not_false,Tryz.f143,↓WX,simprocAttr]
    exact⟨_,_,rfl⟩
   ·simp(maxSteps:=1000000)(disch:=omega)only[push_cast,decide_not,decide_eq_true_eq,decide_eq_false_iff_not,bne_eq_false_iff_eq,beq_eq_false_iff_ne,gt_iff_lt,ne_eq,not_true_eq_false,not_false_eq_true,hal,h0,h6,h8,hfb,e,Bool.not_true,Tryz.f143,↓WX,simprocAttr]
    exact⟨_,_,rfl⟩
  ·have d3:decide (x=0)=false:=decide_eq_false c3
   have hz3:=hz0 c3
   cases e3:decide (z1>IntKind.i64.wrap (Int.tdiv 2199023255552 z2))
   case true=>
    simp(maxSteps:=1000000)(disch:=omega)only[push_cast,decide_not,decide_eq_true_eq,decide_eq_false_iff_not,bne_eq_false_iff_eq,beq_eq_false_iff_ne,gt_iff_lt,ne_eq,not_true_eq_false,not_false_eq_true,hal,h0,h1,h6,h7,d3,k4,k5,hz3,e3,Bool.not_false,Tryz.f143,↓WX,simprocAttr]
    exact⟨_,_,rfl⟩
   refine wc_scut (fun a V=>V=[]∧a.length=54∧a[0]? =some (.int .i64 x)∧a[6]? =some (.int .i64 q1)∧a[7]? =some (.int .i64 r1)) ?_ ?_
   ·simp(maxSteps:=1000000)(disch:=omega)only[push_cast,decide_not,decide_eq_true_eq,decide_eq_false_iff_not,bne_eq_false_iff_eq,beq_eq_false_iff_ne,gt_iff_lt,ne_eq,not_true_eq_false,not_false_eq_true,hal,h0,h1,h6,h7,d3,k4,k5,hz3,e3,Bool.not_false,↓WX,simprocAttr]
   clear hal h0 h1 h6 h7 a
   rintro a V ⟨rfl,hal,h0,h6,h7⟩
   refine wc_scut (fun a V=>V=[]∧(∃z,a[8]? =some (.int .i64 z))∧a.length=54∧a[0]? =some (.int .i64 x)∧a[6]? =some (.int .i64 q1)) ?_ ?_
   ·simp(maxSteps:=1000000)(disch:=omega)only[push_cast,decide_not,decide_eq_true_eq,decide_eq_false_iff_not,bne_eq_false_iff_eq,beq_eq_false_iff_ne,gt_iff_lt,ne_eq,not_true_eq_false,not_false_eq_true,hal,h0,h6,h7,hf,↓WX,simprocAttr]
    exact⟨_,rfl⟩
   clear hal h0 h6 h7 a
   rintro a V ⟨rfl,⟨z,h8⟩,hal,h0,h6⟩
   cases e:fb (IntKind.i64.wrap (IntKind.i64.wrap (x*q1)+z))
   ·simp(maxSteps:=1000000)(disch:=omega)only[push_cast,decide_not,decide_eq_true_eq,decide_eq_false_iff_not,bne_eq_false_iff_eq,beq_eq_false_iff_ne,gt_iff_lt,ne_eq,not_true_eq_false,not_false_eq_true,hal,h0,h6,h8,hfb,e,Bool.not_false,Tryz.f143,↓WX,simprocAttr]
    exact⟨_,_,rfl⟩
   ·simp(maxSteps:=1000000)(disch:=omega)only[push_cast,decide_not,decide_eq_true_eq,decide_eq_false_iff_not,bne_eq_false_iff_eq,beq_eq_false_iff_ne,gt_iff_lt,ne_eq,not_true_eq_false,not_false_eq_true,hal,h0,h6,h8,hfb,e,Bool.not_true,Tryz.f143,↓WX,simprocAttr]
    exact⟨_,_,rfl⟩
 obtain⟨_,T,ho,q,r,rfl⟩:=this
 exact⟨q,r,fun st S=>callD_pure rfl rfl ho rfl⟩
end
end Go.Proofs.YtaklebjoenophaaGreat.Dm
