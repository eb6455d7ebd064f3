/-
  The machine at places: airports and towns are found, and the city of a code: the program's and the reference's.
  The machine at the reference's check of places: it hands back a list of violations.
  The machine at the reference's check of places: airports, distances, all.
  The machine at the reference's check of places: it hands back a list of violations.
-/
import Derived.Test.YtaklebjoenophaaGreatPlT
import Derived.Test.YtaklebjoenophaaGreatWq
import Derived.Test.YtaklebjoenophaaGreatZg
set_option linter.unusedSimpArgs false
set_option linter.unusedVariables false
namespace Go.Proofs.YtaklebjoenophaaGreat.Dm
open Go Gw
set_option linter.unusedSimpArgs false

def zeroApt:List D:=[.str (ByteArray.mk #[]),.str (ByteArray.mk #[]),.str (ByteArray.mk #[]),.int .i64 0,.nils]
def foundD:Option Apt→D
 |some a=>.tup [.agg a.enc,.bool true]
 |none=>.tup [.agg zeroApt,.bool false]
theorem foundD_pure (o:Option Apt):(foundD o).pure=true:=by
 rcases o with _ |a
 ·rfl
 ·simp[foundD,D.pure,pureL_cons,pureL_nil,Apt_pure]
def cityS (p:Plc) (s:ByteArray):ByteArray:=
 match p.aps.find? fun a=>a.code.toList == s.toList with
 |some a=>a.city
 |none=>match p.aps.find? fun a=>a.city.toList == s.toList with
  |some _=>s
  |none=>ByteArray.mk #[]
set_option maxHeartbeats 4000000 in
set_option maxRecDepth 100000 in
theorem PrFind_d {n:Nat} {p:Plc} {s:ByteArray} (hn:p.aps.length<n) (hz:p.aps.length≤9223372036854775800):WO (dcall E (n+1) 138 [.agg p.enc,.str s] []) fun d _=>d=foundD (p.aps.find? fun a=>a.code.toList == s.toList):=by
 refine wo_dcall Tryz.func138 rfl (by decide) rfl 28 rfl (fun a hal ha=>?_)
 have h0:a[0]? =some (.agg p.enc):=ha 0 (by simp)
 have h1:a[1]? =some (.str s):=ha 1 (by simp)
 clear ha
 simp only[Plc.enc]at h0
 simp(maxSteps:=1000000)(disch:=omega)only[push_cast,decide_not,decide_eq_true_eq,decide_eq_false_iff_not,bne_eq_false_iff_eq,beq_eq_false_iff_ne,gt_iff_lt,ne_eq,not_true_eq_false,not_false_eq_true,hal,h0,h1,set_end,get_end,↓WX,simprocAttr]
 refine wl_loop (fun i a T=>a.length=28∧a[1]? =some (.str s)∧a[2]? =some (.loc 0 0 0)∧a[4]? =some (.loc 1 0 0)∧a[6]? =some (.int .i64 i)∧(T[0]? =some (.row 2 [[.sl 5 (p.aps.map Apt.enc) p.apsx,.sl 3 (p.dts.map Dst.enc) p.dtsx]])∧T[1]? =some (.row 5 [[.str (ByteArray.mk #[]),.str (ByteArray.mk #[]),.str (ByteArray.mk #[]),.int .i64 0,.nils]]))∧(p.aps.find? fun a=>a.code.toList == s.toList)=(p.aps.drop i).find? fun a=>a.code.toList == s.toList) p.aps.length ?_ (by omega) ?_
 ·simp(maxSteps:=1000000)(disch:=omega)only[push_cast,decide_not,decide_eq_true_eq,decide_eq_false_iff_not,bne_eq_false_iff_eq,beq_eq_false_iff_ne,gt_iff_lt,ne_eq,not_true_eq_false,not_false_eq_true,hal,h0,h1,Int.natCast_zero,↓WX,simprocAttr]
 clear hal h0 h1 a
 rintro i a T hi ⟨hal,h1,h2,h4,h6,⟨hp,hr⟩,hv⟩
 have hlT:1<T.length:=(List.getElem?_eq_some_iff.1 hr).1
 rcases Nat.lt_or_eq_of_le hi with hlt |rfl
 ·obtain⟨c,hc⟩:∃c,p.aps[i]? =some c:=⟨p.aps[i],by simp[hlt]⟩
  rw[drop_at hc,List.find?_cons]at hv
  cases e:(c.code.toList == s.toList)
  ·rw[e]at hv
   simp(maxSteps:=1000000)(disch:=omega)only[push_cast,decide_not,decide_eq_true_eq,decide_eq_false_iff_not,bne_eq_false_iff_eq,beq_eq_false_iff_ne,gt_iff_lt,ne_eq,not_true_eq_false,not_false_eq_true,hal,h1,h2,h4,h6,hlt,hc,hp,Apt.enc,e,wrap_ok,Int.natCast_add,Int.natCast_one,↓WX,simprocAttr]
   exact⟨hr,hv⟩
  ·rw[e]at hv
   simp(maxSteps:=1000000)(disch:=omega)only[push_cast,decide_not,decide_eq_true_eq,decide_eq_false_iff_not,bne_eq_false_iff_eq,beq_eq_false_iff_ne,gt_iff_lt,ne_eq,not_true_eq_false,not_false_eq_true,hal,h1,h2,h4,h6,hlt,hc,hp,hr,Apt.enc,e,hv,foundD,hlT,Tryz.f138,↓WX,simprocAttr]
 ·rw[List.drop_length,List.find?_nil]at hv
  simp(maxSteps:=1000000)(disch:=omega)only[push_cast,decide_not,decide_eq_true_eq,decide_eq_false_iff_not,bne_eq_false_iff_eq,beq_eq_false_iff_ne,gt_iff_lt,ne_eq,not_true_eq_false,not_false_eq_true,hal,h1,h2,h4,h6,Nat.lt_irrefl,hp,hr,hv,foundD,hlT,Tryz.f138,↓WX,simprocAttr]
  rfl
theorem PrFind_c {n:Nat} {p:Plc} {s:ByteArray} (hn:p.aps.length+1<n) (hz:p.aps.length≤9223372036854775800) (st:Bool) (S:List Ob):callD E (dcall E n) st S 138 [.agg p.enc,.str s]=some (foundD (p.aps.find? fun a=>a.code.toList == s.toList),S):=by
 obtain⟨m,rfl⟩:∃m,n=m+1:=⟨n-1,by omega⟩
 obtain⟨d,T,ho,rfl⟩:=PrFind_d (n:=m) (p:=p) (s:=s) (by omega) hz
 exact callD_pure rfl (by simp[pureL_cons,pureL_nil,D.pure,Plc_pure]) ho (freeze_pure (foundD_pure _))
set_option maxHeartbeats 4000000 in
set_option maxRecDepth 100000 in
theorem rtown_d {n:Nat} {p:Plc} {s:ByteArray} (hn:p.aps.length<n) (hz:p.aps.length≤9223372036854775800):WO (dcall E (n+1) 102 [.agg p.enc,.str s] []) fun d _=>d=foundD (p.aps.find? fun a=>a.city.toList == s.toList):=by
 refine wo_dcall Tryz.func102 rfl (by decide) rfl 28 rfl (fun a hal ha=>?_)
 have h0:a[0]? =some (.agg p.enc):=ha 0 (by simp)
 have h1:a[1]? =some (.str s):=ha 1 (by simp)
 clear ha
 simp only[Plc.enc]at h0
 simp(maxSteps:=1000000)(disch:=omega)only[push_cast,decide_not,decide_eq_true_eq,decide_eq_false_iff_not,bne_eq_false_iff_eq,beq_eq_false_iff_ne,gt_iff_lt,ne_eq,not_true_eq_false,not_false_eq_true,hal,h0,h1,set_end,get_end,↓WX,simprocAttr]
 refine wl_loop (fun i a T=>a.length=28∧a[1]? =some (.str s)∧a[2]? =some (.loc 0 0 0)∧a[4]? =some (.loc 1 0 0)∧a[6]? =some (.int .i64 i)∧(T[0]? =some (.row 2 [[.sl 5 (p.aps.map Apt.enc) p.apsx,.sl 3 (p.dts.map Dst.enc) p.dtsx]])∧T[1]? =some (.row 5 [[.str (ByteArray.mk #[]),.str (ByteArray.mk #[]),.str (ByteArray.mk #[]),.int .i64 0,.nils]]))∧(p.aps.find? fun a=>a.city.toList == s.toList)=(p.aps.drop i).find? fun a=>a.city.toList == s.toList) p.aps.length ?_ (by omega) ?_
 ·simp(maxSteps:=1000000)(disch:=omega)only[push_cast,decide_not,decide_eq_true_eq,decide_eq_false_iff_not,bne_eq_false_iff_eq,beq_eq_false_iff_ne,gt_iff_lt,ne_eq,not_true_eq_false,not_false_eq_true,hal,h0,h1,Int.natCast_zero,↓WX,simprocAttr]
 clear hal h0 h1 a
 rintro i a T hi ⟨hal,h1,h2,h4,h6,⟨hp,hr⟩,hv⟩
 have hlT:1<T.length:=(List.getElem?_eq_some_iff.1 hr).1
 rcases Nat.lt_or_eq_of_le hi with hlt |rfl
 ·obtain⟨c,hc⟩:∃c,p.aps[i]? =some c:=⟨p.aps[i],by simp[hlt]⟩
  rw[drop_at hc,List.find?_cons]at hv
  cases e:(c.city.toList == s.toList)
  ·rw[e]at hv
   simp(maxSteps:=1000000)(disch:=omega)only[push_cast,decide_not,decide_eq_true_eq,decide_eq_false_iff_not,bne_eq_false_iff_eq,beq_eq_false_iff_ne,gt_iff_lt,ne_eq,not_true_eq_false,not_false_eq_true,hal,h1,h2,h4,h6,hlt,hc,hp,Apt.enc,e,wrap_ok,Int.natCast_add,Int.natCast_one,↓WX,simprocAttr]
   exact⟨hr,hv⟩
  ·rw[e]at hv
   simp(maxSteps:=1000000)(disch:=omega)only[push_cast,decide_not,decide_eq_true_eq,decide_eq_false_iff_not,bne_eq_false_iff_eq,beq_eq_false_iff_ne,gt_iff_lt,ne_eq,not_true_eq_false,not_false_eq_true,hal,h1,h2,h4,h6,hlt,hc,hp,hr,Apt.enc,e,hv,foundD,hlT,Tryz.f102,↓WX,simprocAttr]
 ·rw[List.drop_length,List.find?_nil]at hv
  simp(maxSteps:=1000000)(disch:=omega)only[push_cast,decide_not,decide_eq_true_eq,decide_eq_false_iff_not,bne_eq_false_iff_eq,beq_eq_false_iff_ne,gt_iff_lt,ne_eq,not_true_eq_false,not_false_eq_true,hal,h1,h2,h4,h6,Nat.lt_irrefl,hp,hr,hv,foundD,hlT,Tryz.f102,↓WX,simprocAttr]
  rfl
theorem rtown_c {n:Nat} {p:Plc} {s:ByteArray} (hn:p.aps.length+1<n) (hz:p.aps.length≤9223372036854775800) (st:Bool) (S:List Ob):callD E (dcall E n) st S 102 [.agg p.enc,.str s]=some (foundD (p.aps.find? fun a=>a.city.toList == s.toList),S):=by
 obtain⟨m,rfl⟩:∃m,n=m+1:=⟨n-1,by omega⟩
 obtain⟨d,T,ho,rfl⟩:=rtown_d (n:=m) (p:=p) (s:=s) (by omega) hz
 exact callD_pure rfl (by simp[pureL_cons,pureL_nil,D.pure,Plc_pure]) ho (freeze_pure (foundD_pure _))
set_option maxHeartbeats 4000000 in
set_option maxRecDepth 100000 in
theorem rCity_c {n:Nat} {p:Plc} {s:ByteArray} (hn:p.aps.length+2<n) (hz:p.aps.length≤9223372036854775800) (st:Bool) (S:List Ob):callD E (dcall E n) st S 136 [.agg p.enc,.str s]=some (.str (cityS p s),S):=by
 obtain⟨m,rfl⟩:∃m,n=m+1:=⟨n-1,by omega⟩
 have c1:=PrFind_c (n:=m) (p:=p) (s:=s) (by omega) hz
 have c2:=rtown_c (n:=m) (p:=p) (s:=s) (by omega) hz
 have:WO (dcall E (m+1) 136 [.agg p.enc,.str s] []) fun d _=>d=.str (cityS p s):=by
  refine wo_dcall Tryz.func136 rfl (by decide) rfl 24 rfl (fun a hal ha=>?_)
  have h0:a[0]? =some (.agg p.enc):=ha 0 (by simp)
  have h1:a[1]? =some (.str s):=ha 1 (by simp)
  clear ha
  unfold cityS
  simp only[Plc.enc]at h0 c1 c2
  rcases ha:(p.aps.find? fun a=>a.code.toList == s.toList) with _ |a1
  ·rw[ha]at c1 ⊢
   simp only[foundD,zeroApt]at c1
   rcases hb:(p.aps.find? fun a=>a.city.toList == s.toList) with _ |a2
   ·rw[hb]at c2 ⊢
    simp only[foundD,zeroApt]at c2
    simp(maxSteps:=1000000)(disch:=omega)only[push_cast,decide_not,decide_eq_true_eq,decide_eq_false_iff_not,bne_eq_false_iff_eq,beq_eq_false_iff_ne,gt_iff_lt,ne_eq,not_true_eq_false,not_false_eq_true,hal,h0,h1,c1,c2,Tryz.f136,↓WX,simprocAttr]
   ·rw[hb]at c2 ⊢
    simp only[foundD,Apt.enc]at c2
    simp(maxSteps:=1000000)(disch:=omega)only[push_cast,decide_not,decide_eq_true_eq,decide_eq_false_iff_not,bne_eq_false_iff_eq,beq_eq_false_iff_ne,gt_iff_lt,ne_eq,not_true_eq_false,not_false_eq_true,hal,h0,h1,c1,c2,Tryz.f136,↓WX,simprocAttr]
  ·rw[ha]at c1 ⊢
   simp only[foundD,Apt.enc]at c1
   simp(maxSteps:=1000000)(disch:=omega)only[push_cast,decide_not,decide_eq_true_eq,decide_eq_false_iff_not,bne_eq_false_iff_eq,beq_eq_false_iff_ne,gt_iff_lt,ne_eq,not_true_eq_false,not_false_eq_true,hal,h0,h1,c1,Tryz.f136,↓WX,simprocAttr]
 obtain⟨d,T,ho,rfl⟩:=this
 exact callD_pure rfl (by simp[pureL_cons,pureL_nil,D.pure,Plc_pure]) ho rfl

def encI (e:Int):List D:=[.int .i64 e]
theorem encI_pure (l:List Int):pureLL (l.map encI)=true:=by
 induction l with
 |nil=>rfl
 |cons f fs ih=>rw[List.map_cons,pureLL_cons,ih];rfl
theorem app_err {S:List Ob} {d:D} {l:List Int} (h:GL 1 encI S d l) (hl:l.length≤1000) (e:Int):
  ∃S',dAppend Tryz.prog S 108 108 d (.sl 1 [[.int .i64 e]] true)=some (.os S.length 0 (l.length+1) false,S')∧GL 1 encI S' (.os S.length 0 (l.length+1) false) (l++[e])∧S'.length=S.length+1∧(∀k o,(∀n,d=.os k 0 n false→False)→S[k]? =some o→S'[k]? =some o)∧(∀(k sz:Nat) (es:List (List D)),sz≠1→S[k]? =some (.row sz es)→S'[k]? =some (.row sz es)):=
 app_gl (e:=42) (z:=.int .i64 0) (n:=0) (by kernel_rfl) (by kernel_rfl) (by kernel_rfl) rfl (Nat.le_of_ble_eq_true (by kernel_rfl)) h (by omega) e
def offB (x:Int):Bool:=decide (-840≤x) && decide (x≤840)
theorem roff_c {n:Nat} (hn:1≤n) (x:Int) (st:Bool) (S:List Ob):callD E (dcall E n) st S 150 [.int .i64 x]=some (.bool (offB x),S):=by
 obtain⟨m,rfl⟩:∃m,n=m+1:=⟨n-1,by omega⟩
 have:WO (dcall E (m+1) 150 [.int .i64 x] []) fun d T=>d=.bool (offB x)∧T=[]:=by
  refine wo_dcall Tryz.func150 rfl (by decide) rfl 9 rfl (fun a hal ha=>?_)
  have h0:a[0]? =some (.int .i64 x):=ha 0 (by simp)
  clear ha
  unfold offB
  by_cases h: -840≤x <;>
  ·simp(maxSteps:=1000000)(disch:=omega)only[push_cast,decide_not,decide_eq_true_eq,decide_eq_false_iff_not,bne_eq_false_iff_eq,beq_eq_false_iff_ne,gt_iff_lt,ne_eq,not_true_eq_false,not_false_eq_true,hal,h0,h,ge_iff_le,decide_true,decide_false,Bool.true_and,Bool.false_and,Tryz.f150,↓WX,simprocAttr]
 exact callD_pure rfl rfl (eq_of_wo this) rfl
set_option maxHeartbeats 4000000 in
set_option maxRecDepth 100000 in
theorem rZone_c {n:Nat} (hn:270≤n) (off:Int) (sh:List Shf) (x:Bool):∃e:Int,∀st S,callD E (dcall E n) st S 100 [.agg [.int .i64 off,.sl 2 (sh.map Shf.enc) x]]=some (.int .i64 e,S):=by
 obtain⟨m,rfl⟩:∃m,n=m+1:=⟨n-1,by omega⟩
 have ro:=roff_c (n:=m) (by omega)
 have:WO (dcall E (m+1) 100 [.agg [.int .i64 off,.sl 2 (sh.map Shf.enc) x]] []) fun d _=>∃e:Int,d=.int .i64 e:=by
  refine wo_dcall Tryz.func100 rfl (by decide) rfl 54 rfl (fun a hal ha=>?_)
  have h0:a[0]? =some (.agg [.int .i64 off,.sl 2 (sh.map Shf.enc) x]):=ha 0 (by simp)
  clear ha
  by_cases g:(256:Int)<sh.length
  ·simp(maxSteps:=1000000)(disch:=omega)only[push_cast,decide_not,decide_eq_true_eq,decide_eq_false_iff_not,bne_eq_false_iff_eq,beq_eq_false_iff_ne,gt_iff_lt,ne_eq,not_true_eq_false,not_false_eq_true,hal,h0,g,Tryz.f100,↓WX,simprocAttr]
   exact⟨_,rfl⟩
  cases g1:offB off
  ·simp(maxSteps:=1000000)(disch:=omega)only[push_cast,decide_not,decide_eq_true_eq,decide_eq_false_iff_not,bne_eq_false_iff_eq,beq_eq_false_iff_ne,gt_iff_lt,ne_eq,not_true_eq_false,not_false_eq_true,hal,h0,g,g1,ro,Tryz.f100,↓WX,simprocAttr]
   exact⟨_,rfl⟩
  simp(maxSteps:=1000000)(disch:=omega)only[push_cast,decide_not,decide_eq_true_eq,decide_eq_false_iff_not,bne_eq_false_iff_eq,beq_eq_false_iff_ne,gt_iff_lt,ne_eq,not_true_eq_false,not_false_eq_true,hal,h0,g,g1,ro,↓WX,simprocAttr]
  refine wl_loop (fun i a T=>a.length=54∧a[1]? =some (.loc 0 0 0)∧a[3]? =some (.int .i64 i)∧T[0]? =some (.row 2 [[.int .i64 off,.sl 2 (sh.map Shf.enc) x]])) sh.length ?_ (by omega) ?_
  ·simp(maxSteps:=1000000)(disch:=omega)only[push_cast,decide_not,decide_eq_true_eq,decide_eq_false_iff_not,bne_eq_false_iff_eq,beq_eq_false_iff_ne,gt_iff_lt,ne_eq,not_true_eq_false,not_false_eq_true,hal,h0,Int.natCast_zero,↓WX,simprocAttr]
  clear hal h0 a
  rintro i a T hi ⟨hal,h1,h3,ht⟩
  rcases Nat.lt_or_eq_of_le hi with hlt |rfl
  case inr=>
   simp(maxSteps:=1000000)(disch:=omega)only[push_cast,decide_not,decide_eq_true_eq,decide_eq_false_iff_not,bne_eq_false_iff_eq,beq_eq_false_iff_ne,gt_iff_lt,ne_eq,not_true_eq_false,not_false_eq_true,hal,h1,h3,Nat.lt_irrefl,ht,Tryz.f100,↓WX,simprocAttr]
   exact⟨_,rfl⟩
  obtain⟨c,hc⟩:∃c,sh[i]? =some c:=⟨sh[i],by simp[hlt]⟩
  have htl:0<T.length:=(List.getElem?_eq_some_iff.1 ht).1
  have ht':∀o,(T++[o])[0]? =some (.row 2 [[.int .i64 off,.sl 2 (sh.map Shf.enc) x]]):=fun o=>get_old ht
  have hne:(T.length=0)=False:=eq_false (by omega)
  by_cases e1:c.tm<0
  ·simp(maxSteps:=1000000)(disch:=omega)only[push_cast,decide_not,decide_eq_true_eq,decide_eq_false_iff_not,bne_eq_false_iff_eq,beq_eq_false_iff_ne,gt_iff_lt,ne_eq,not_true_eq_false,not_false_eq_true,hal,h1,h3,hlt,hc,ht,ht',e1,set_end,get_end,hne,Shf.enc,Tryz.f100,↓WX,simprocAttr]
   exact⟨_,rfl⟩
  by_cases e2:52596000≤c.tm
  ·simp(maxSteps:=1000000)(disch:=omega)only[push_cast,decide_not,decide_eq_true_eq,decide_eq_false_iff_not,bne_eq_false_iff_eq,beq_eq_false_iff_ne,gt_iff_lt,ne_eq,not_true_eq_false,not_false_eq_true,hal,h1,h3,hlt,hc,ht,ht',e1,e2,ge_iff_le,set_end,get_end,hne,Shf.enc,Tryz.f100,↓WX,simprocAttr]
   exact⟨_,rfl⟩
  rcases Nat.eq_zero_or_pos i with rfl |hp
  ·have hlt0:(0:Int)<(sh.length:Int):=by omega
   cases g2:offB c.off
   ·simp(maxSteps:=1000000)(disch:=omega)only[push_cast,decide_not,decide_eq_true_eq,decide_eq_false_iff_not,bne_eq_false_iff_eq,beq_eq_false_iff_ne,gt_iff_lt,ne_eq,not_true_eq_false,not_false_eq_true,hal,h1,h3,hlt0,Int.toNat_zero,hc,ht,ht',e1,e2,g2,ro,ge_iff_le,set_end,get_end,hne,Shf.enc,Int.natCast_zero,Int.lt_irrefl,Tryz.f100,↓WX,simprocAttr]
    exact⟨_,rfl⟩
   ·simp(maxSteps:=1000000)(disch:=omega)only[push_cast,decide_not,decide_eq_true_eq,decide_eq_false_iff_not,bne_eq_false_iff_eq,beq_eq_false_iff_ne,gt_iff_lt,ne_eq,not_true_eq_false,not_false_eq_true,hal,h1,h3,hlt0,Int.toNat_zero,hc,ht,ht',e1,e2,g2,ro,ge_iff_le,set_end,get_end,hne,Shf.enc,Int.natCast_zero,Int.lt_irrefl,wrap_ok,Int.natCast_add,Int.natCast_one,↓WX,simprocAttr]
    exact hlt
  ·obtain⟨j,hji⟩:∃j,i=j+1:=⟨i-1,by omega⟩
   obtain⟨q,hq⟩:∃q,sh[j]? =some q:=⟨sh[j]'(by omega),by simp⟩
   have hp':(0:Int)<(i:Int):=by omega
   have hj:IntKind.i64.wrap ((i:Int)-1)=j:=by rw[wrap_ok (by omega) (by omega)];omega
   have hjl:j<sh.length:=by omega
   by_cases e3:IntKind.i64.wrap (c.tm-q.tm)<2880
   ·simp(maxSteps:=1000000)(disch:=omega)only[push_cast,decide_not,decide_eq_true_eq,decide_eq_false_iff_not,bne_eq_false_iff_eq,beq_eq_false_iff_ne,gt_iff_lt,ne_eq,not_true_eq_false,not_false_eq_true,hal,h1,h3,hlt,hjl,hc,ht,ht',hq,e1,e2,e3,hp',hj,ge_iff_le,set_end,get_end,hne,Shf.enc,Tryz.f100,↓WX,simprocAttr]
    exact⟨_,rfl⟩
   cases g2:offB c.off
   ·simp(maxSteps:=1000000)(disch:=omega)only[push_cast,decide_not,decide_eq_true_eq,decide_eq_false_iff_not,bne_eq_false_iff_eq,beq_eq_false_iff_ne,gt_iff_lt,ne_eq,not_true_eq_false,not_false_eq_true,hal,h1,h3,hlt,hjl,hc,ht,ht',hq,e1,e2,e3,g2,ro,hp',hj,ge_iff_le,set_end,get_end,hne,Shf.enc,Tryz.f100,↓WX,simprocAttr]
    exact⟨_,rfl⟩
   ·have hw:IntKind.i64.wrap ((i:Int)+1)=(i:Int)+1:=wrap_ok (by omega) (by omega)
    simp(maxSteps:=1000000)(disch:=omega)only[push_cast,decide_not,decide_eq_true_eq,decide_eq_false_iff_not,bne_eq_false_iff_eq,beq_eq_false_iff_ne,gt_iff_lt,ne_eq,not_true_eq_false,not_false_eq_true,hal,h1,h3,hlt,hjl,hc,ht,ht',hq,e1,e2,e3,g2,ro,hp',hj,hw,ge_iff_le,set_end,get_end,hne,Shf.enc,Int.natCast_add,Int.natCast_one,↓WX,simprocAttr]
 obtain⟨d,T,ho,e,rfl⟩:=this
 exact⟨e,fun st S=>callD_pure rfl (by simp[pureL_cons,pureL_nil,D.pure,Shfs_pure]) ho rfl⟩

def AptR (n:Nat) (c:Apt):Prop:=(c.code.size+10<n∧c.city.size+10<n∧c.ctry.size+10<n)∧c.code.size≤9223372036854775807∧c.city.size≤9223372036854775807∧c.ctry.size≤9223372036854775807
set_option maxHeartbeats 8000000 in
set_option maxRecDepth 100000 in
theorem airport_d {n:Nat} {p:Plc} {i:Nat} (hn:300≤n) (hl:p.aps.length≤100) (hi:i<p.aps.length) (hz:∀c∈p.aps,AptR n c):
  WO (dcall E (n+1) 41 [.agg p.enc,.int .i64 i] []) fun d T=>∃es,GL 1 encI T d es∧es.length≤4:=by
 obtain⟨c,hc⟩:∃c,p.aps[i]? =some c:=⟨p.aps[i],by simp[hi]⟩
 obtain⟨⟨z1,z2,z3⟩,y1,y2,y3⟩:=hz c (List.mem_of_getElem? hc)
 have tA:=rAirport_c (n:=n) (s:=c.code) (by omega) y1
 have tB:=rAirport_c (n:=n) (s:=c.city) (by omega) y2
 have tC:=rCountry_c (n:=n) (s:=c.ctry) (by omega) y3
 obtain⟨ez,tZ⟩:=rZone_c (n:=n) (by omega) c.off c.sh c.shx
 have hpe:p.enc=[.sl 5 (p.aps.map Apt.enc) p.apsx,.sl 3 (p.dts.map Dst.enc) p.dtsx]:=rfl
 have hce:c.enc=[.str c.code,.str c.city,.str c.ctry,.int .i64 c.off,.sl 2 (c.sh.map Shf.enc) c.shx]:=rfl
 refine wo_dcall Tryz.func41 rfl (by decide) rfl 93 rfl (fun a hal ha=>?_)
 have h0:a[0]? =some (.agg p.enc):=ha 0 (by simp)
 have h1:a[1]? =some (.int .i64 i):=ha 1 (by simp)
 clear ha
 rw[hpe]at h0
 rw[wc_asc,wc_asc]
 refine wc_scut (fun a T=>∃(d:D) (es:List Int),a.length=93∧a[1]? =some (.int .i64 i)∧a[2]? =some (.loc 0 0 0)∧a[5]? =some (d)∧a[6]? =some (.loc 1 0 0)∧GL 1 encI T d es∧es.length≤0∧T[0]? =some (.row 2 [p.enc])∧T[1]? =some (.row 5 [c.enc])) ?_ ?_
 ·simp(maxSteps:=1000000)(disch:=omega)only[push_cast,decide_not,decide_eq_true_eq,decide_eq_false_iff_not,bne_eq_false_iff_eq,beq_eq_false_iff_ne,gt_iff_lt,ne_eq,not_true_eq_false,not_false_eq_true,hal,h0,h1,hpe,hi,hc,hce,set_end,get_end,↓WX,simprocAttr]
  exact⟨_,[],rfl,.nil,Nat.le_refl _⟩
 clear hal h0 h1 a
 rintro a T ⟨d,es,hal,h1,h2,h5,h6,hg,hes,hT0,hT1⟩
 refine wc_scut (fun a T=>∃(d:D) (es:List Int),a.length=93∧a[1]? =some (.int .i64 i)∧a[2]? =some (.loc 0 0 0)∧a[5]? =some (d)∧a[6]? =some (.loc 1 0 0)∧GL 1 encI T d es∧es.length≤1∧T[0]? =some (.row 2 [p.enc])∧T[1]? =some (.row 5 [c.enc])) ?_ ?_
 ·obtain⟨W,hW,hgW,-,-,hkW⟩:=app_err hg (by omega) 5
  have hW0:=hkW _ _ _ (by decide) hT0
  have hW1:=hkW _ _ _ (by decide) hT1
  have hT1':=hT1
  rw[hce]at hT1'
  cases e1:lettS c.code 3
  ·simp(maxSteps:=1000000)(disch:=omega)only[push_cast,decide_not,decide_eq_true_eq,decide_eq_false_iff_not,bne_eq_false_iff_eq,beq_eq_false_iff_ne,gt_iff_lt,ne_eq,not_true_eq_false,not_false_eq_true,hal,h1,h2,h5,h6,hT1',tA,e1,hW,↓WX,simprocAttr]
   exact⟨_,es++[5],rfl,hgW,by rw[List.length_append];exact Nat.succ_le_succ hes,hW0,hW1⟩
  cases e2:lettS c.city 3
  ·simp(maxSteps:=1000000)(disch:=omega)only[push_cast,decide_not,decide_eq_true_eq,decide_eq_false_iff_not,bne_eq_false_iff_eq,beq_eq_false_iff_ne,gt_iff_lt,ne_eq,not_true_eq_false,not_false_eq_true,hal,h1,h2,h5,h6,hT1',tA,tB,e1,e2,hW,↓WX,simprocAttr]
   exact⟨_,es++[5],rfl,hgW,by rw[List.length_append];exact Nat.succ_le_succ hes,hW0,hW1⟩
  cases e3:lettS c.ctry 2
  ·simp(maxSteps:=1000000)(disch:=omega)only[push_cast,decide_not,decide_eq_true_eq,decide_eq_false_iff_not,bne_eq_false_iff_eq,beq_eq_false_iff_ne,gt_iff_lt,ne_eq,not_true_eq_false,not_false_eq_true,hal,h1,h2,h5,h6,hT1',tA,tB,tC,e1,e2,e3,hW,↓WX,simprocAttr]
   exact⟨_,es++[5],rfl,hgW,by rw[List.length_append];exact Nat.succ_le_succ hes,hW0,hW1⟩
  ·simp(maxSteps:=1000000)(disch:=omega)only[push_cast,decide_not,decide_eq_true_eq,decide_eq_false_iff_not,bne_eq_false_iff_eq,beq_eq_false_iff_ne,gt_iff_lt,ne_eq,not_true_eq_false,not_false_eq_true,hal,h1,h2,h5,h6,hT1',tA,tB,tC,e1,e2,e3,↓WX,simprocAttr]
   exact⟨d,_,rfl,hg,by omega,hT0,rfl⟩
 clear hal h1 h2 h5 h6 hg hes hT0 hT1 d es a T
 rintro a T ⟨d,es,hal,h1,h2,h5,h6,hg,hes,hT0,hT1⟩
 have hT0':=hT0
 have hT1':=hT1
 rw[hpe]at hT0'
 rw[hce]at hT1'
 refine wc_scut (fun a T'=>T'=T∧a.length=93∧a[1]? =some (.int .i64 i)∧a[2]? =some (.loc 0 0 0)∧a[5]? =some (d)∧a[6]? =some (.loc 1 0 0)∧a[7]? =some (.bool false)∧a[8]? =some (.bool false)) ?_ ?_
 ·simp(maxSteps:=1000000)(disch:=omega)only[push_cast,decide_not,decide_eq_true_eq,decide_eq_false_iff_not,bne_eq_false_iff_eq,beq_eq_false_iff_ne,gt_iff_lt,ne_eq,not_true_eq_false,not_false_eq_true,hal,h1,h2,h5,h6,↓WX,simprocAttr]
 clear hal h1 h2 h5 h6 a
 rintro a T' ⟨rfl,hal,h1,h2,h5,h6,h7,h8⟩
 refine wc_scut (fun a T=>T=T'∧∃b7 b8:Bool,a.length=93∧a[1]? =some (.int .i64 i)∧a[2]? =some (.loc 0 0 0)∧a[5]? =some (d)∧a[6]? =some (.loc 1 0 0)∧a[7]? =some (.bool b7)∧a[8]? =some (.bool b8)) ?_ ?_
 ·simp(maxSteps:=1000000)(disch:=omega)only[push_cast,decide_not,decide_eq_true_eq,decide_eq_false_iff_not,bne_eq_false_iff_eq,beq_eq_false_iff_ne,gt_iff_lt,ne_eq,not_true_eq_false,not_false_eq_true,hal,h1,h2,h5,h6,h7,h8,↓WX,simprocAttr]
  refine wl_loop (fun k a T=>T=T'∧∃b7 b8:Bool,a.length=93∧a[1]? =some (.int .i64 i)∧a[2]? =some (.loc 0 0 0)∧a[5]? =some (d)∧a[6]? =some (.loc 1 0 0)∧a[7]? =some (.bool b7)∧a[8]? =some (.bool b8)∧a[9]? =some (.int .i64 k)) i ?_ (by omega) ?_
  ·simp(maxSteps:=1000000)(disch:=omega)only[push_cast,decide_not,decide_eq_true_eq,decide_eq_false_iff_not,bne_eq_false_iff_eq,beq_eq_false_iff_ne,gt_iff_lt,ne_eq,not_true_eq_false,not_false_eq_true,hal,h1,h2,h5,h6,h7,h8,Int.natCast_zero,↓WX,simprocAttr]
   exact⟨_,_,rfl,rfl⟩
  clear hal h1 h2 h5 h6 h7 h8 a
  rintro k a T hk ⟨rfl,b7,b8,hal,h1,h2,h5,h6,h7,h8,h9⟩
  rcases Nat.lt_or_eq_of_le hk with hkl |rfl
  case inr=>
   simp(maxSteps:=1000000)(disch:=omega)only[push_cast,decide_not,decide_eq_true_eq,decide_eq_false_iff_not,bne_eq_false_iff_eq,beq_eq_false_iff_ne,gt_iff_lt,ne_eq,not_true_eq_false,not_false_eq_true,hal,h1,h2,h5,h6,h7,h8,h9,Int.lt_irrefl,Nat.lt_irrefl,↓WX,simprocAttr]
   exact⟨_,_,rfl,rfl⟩
  obtain⟨q,hq⟩:∃q,p.aps[k]? =some q:=⟨p.aps[k]'(by omega),by simp⟩
  have hkn:k<p.aps.length:=Nat.lt_trans hkl hi
  cases e1:(q.code.toList == c.code.toList) <;> cases e2:(q.city.toList == c.city.toList) <;> cases e3:(q.ctry.toList == c.ctry.toList) <;> cases b7 <;> cases b8 <;>
  ·simp(maxSteps:=1000000)(disch:=omega)only[push_cast,decide_not,decide_eq_true_eq,decide_eq_false_iff_not,bne_eq_false_iff_eq,beq_eq_false_iff_ne,gt_iff_lt,ne_eq,not_true_eq_false,not_false_eq_true,hal,h1,h2,h5,h6,h7,h8,h9,hkl,hkn,hq,hT0',hT1',e1,e2,e3,Apt.enc,wrap_ok,Int.natCast_add,Int.natCast_one,↓WX,simprocAttr]
   exact⟨_,_,rfl,rfl⟩
 clear hal h1 h2 h5 h6 h7 h8 a
 rintro a T ⟨rfl,b7,b8,hal,h1,h2,h5,h6,h7,h8⟩
 refine wc_scut (fun a T=>∃(d:D) (es:List Int),a.length=93∧a[1]? =some (.int .i64 i)∧a[2]? =some (.loc 0 0 0)∧a[5]? =some (d)∧a[6]? =some (.loc 1 0 0)∧a[8]? =some (.bool b8)∧GL 1 encI T d es∧es.length≤2∧T[0]? =some (.row 2 [p.enc])∧T[1]? =some (.row 5 [c.enc])) ?_ ?_
 ·cases b7
  ·simp(maxSteps:=1000000)(disch:=omega)only[push_cast,decide_not,decide_eq_true_eq,decide_eq_false_iff_not,bne_eq_false_iff_eq,beq_eq_false_iff_ne,gt_iff_lt,ne_eq,not_true_eq_false,not_false_eq_true,hal,h1,h2,h5,h6,h7,h8,↓WX,simprocAttr]
   exact⟨d,_,rfl,hg,by omega,hT0,hT1⟩
  ·obtain⟨W,hW,hgW,-,-,hkW⟩:=app_err hg (by omega) 6
   have hW0:=hkW _ _ _ (by decide) hT0
   have hW1:=hkW _ _ _ (by decide) hT1
   simp(maxSteps:=1000000)(disch:=omega)only[push_cast,decide_not,decide_eq_true_eq,decide_eq_false_iff_not,bne_eq_false_iff_eq,beq_eq_false_iff_ne,gt_iff_lt,ne_eq,not_true_eq_false,not_false_eq_true,hal,h1,h2,h5,h6,h7,h8,hW,↓WX,simprocAttr]
   exact⟨_,es++[6],rfl,hgW,by rw[List.length_append];exact Nat.succ_le_succ hes,hW0,hW1⟩
 clear hal h1 h2 h5 h6 h7 h8 hg hes hT0 hT1 hT0' hT1' d es a T
 rintro a T ⟨d,es,hal,h1,h2,h5,h6,h8,hg,hes,hT0,hT1⟩
 refine wc_scut (fun a T=>∃(d:D) (es:List Int),a.length=93∧a[1]? =some (.int .i64 i)∧a[2]? =some (.loc 0 0 0)∧a[5]? =some (d)∧a[6]? =some (.loc 1 0 0)∧GL 1 encI T d es∧es.length≤3∧T[0]? =some (.row 2 [p.enc])∧T[1]? =some (.row 5 [c.enc])) ?_ ?_
 ·cases b8
  ·simp(maxSteps:=1000000)(disch:=omega)only[push_cast,decide_not,decide_eq_true_eq,decide_eq_false_iff_not,bne_eq_false_iff_eq,beq_eq_false_iff_ne,gt_iff_lt,ne_eq,not_true_eq_false,not_false_eq_true,hal,h1,h2,h5,h6,h8,↓WX,simprocAttr]
   exact⟨d,_,rfl,hg,by omega,hT0,hT1⟩
  ·obtain⟨W,hW,hgW,-,-,hkW⟩:=app_err hg (by omega) 8
   have hW0:=hkW _ _ _ (by decide) hT0
   have hW1:=hkW _ _ _ (by decide) hT1
   simp(maxSteps:=1000000)(disch:=omega)only[push_cast,decide_not,decide_eq_true_eq,decide_eq_false_iff_not,bne_eq_false_iff_eq,beq_eq_false_iff_ne,gt_iff_lt,ne_eq,not_true_eq_false,not_false_eq_true,hal,h1,h2,h5,h6,h8,hW,↓WX,simprocAttr]
   exact⟨_,es++[8],rfl,hgW,by rw[List.length_append];exact Nat.succ_le_succ hes,hW0,hW1⟩
 clear hal h1 h2 h5 h6 h8 hg hes hT0 hT1 d es a T
 rintro a T ⟨d,es,hal,h1,h2,h5,h6,hg,hes,hT0,hT1⟩
 rw[hce]at hT1
 by_cases e:ez=0
 ·subst e
  simp(maxSteps:=1000000)(disch:=omega)only[push_cast,decide_not,decide_eq_true_eq,decide_eq_false_iff_not,bne_eq_false_iff_eq,beq_eq_false_iff_ne,gt_iff_lt,ne_eq,not_true_eq_false,not_false_eq_true,hal,h1,h2,h5,h6,hT1,tZ,Tryz.f41,↓WX,simprocAttr]
  exact⟨_,hg,by omega⟩
 ·obtain⟨W,hW,hgW,-,-,-⟩:=app_err hg (by omega) ez
  simp(maxSteps:=1000000)(disch:=omega)only[push_cast,decide_not,decide_eq_true_eq,decide_eq_false_iff_not,bne_eq_false_iff_eq,beq_eq_false_iff_ne,gt_iff_lt,ne_eq,not_true_eq_false,not_false_eq_true,hal,h1,h2,h5,h6,hT1,tZ,e,hW,Tryz.f41,↓WX,simprocAttr]
  exact⟨es++[ez],hgW,by rw[List.length_append];exact Nat.succ_le_succ hes⟩
theorem town_at {n:Nat} {p:Plc} {s:ByteArray} (hn:p.aps.length+1<n) (hz:p.aps.length≤9223372036854775800):∃(r0 r1 r2 r3 r4:D) (b:Bool),∀st S,callD E (dcall E n) st S 102 [.agg p.enc,.str s]=some (.tup [.agg [r0,r1,r2,r3,r4],.bool b],S)∧[r0,r1,r2,r3,r4].all D.one=true:=by
 have h:=rtown_c (n:=n) (p:=p) (s:=s) hn hz
 cases hf:(p.aps.find? fun a=>a.city.toList == s.toList) with
 |none=>
  rw[hf]at h
  exact⟨_,_,_,_,_,_,fun st S=>⟨h st S,rfl⟩⟩
 |some a=>
  rw[hf]at h
  exact⟨_,_,_,_,_,_,fun st S=>⟨h st S,rfl⟩⟩
theorem Pusable_c {n:Nat} (hn:1≤n) (c:Dst) (st:Bool) (S:List Ob):callD E (dcall E n) st S 103 [.agg c.enc]=some (.bool (decide (1≤c.mi) && decide (c.mi≤20000)),S):=by
 obtain⟨m,rfl⟩:∃m,n=m+1:=⟨n-1,by omega⟩
 have:WO (dcall E (m+1) 103 [.agg c.enc] []) fun d T=>d=.bool (decide (1≤c.mi) && decide (c.mi≤20000)):=by
  refine wo_dcall Tryz.func103 rfl (by decide) rfl 11 rfl (fun a hal ha=>?_)
  have h0:a[0]? =some (.agg c.enc):=ha 0 (by simp)
  clear ha
  simp only[Dst.enc]at h0
  by_cases h:1≤c.mi
  ·simp(maxSteps:=1000000)(disch:=omega)only[push_cast,decide_not,decide_eq_true_eq,decide_eq_false_iff_not,bne_eq_false_iff_eq,beq_eq_false_iff_ne,gt_iff_lt,ne_eq,not_true_eq_false,not_false_eq_true,hal,h0,h,ge_iff_le,set_end,get_end,decide_true,Bool.true_and,Tryz.f103,↓WX,simprocAttr]
  ·simp(maxSteps:=1000000)(disch:=omega)only[push_cast,decide_not,decide_eq_true_eq,decide_eq_false_iff_not,bne_eq_false_iff_eq,beq_eq_false_iff_ne,gt_iff_lt,ne_eq,not_true_eq_false,not_false_eq_true,hal,h0,h,ge_iff_le,set_end,get_end,decide_false,Bool.false_and,Tryz.f103,↓WX,simprocAttr]
 obtain⟨d,T,ho,rfl⟩:=this
 exact callD_pure rfl (by simp[pureL_cons,pureL_nil,D.pure,Dst_pure]) ho rfl
set_option maxHeartbeats 8000000 in
set_option maxRecDepth 100000 in
theorem distance_d {n:Nat} {p:Plc} {i:Nat} (hn:300≤n) (hl:p.aps.length≤100) (hld:p.dts.length≤100) (hi:i<p.dts.length):
  WO (dcall E (n+1) 43 [.agg p.enc,.int .i64 i] []) fun d T=>∃es,GL 1 encI T d es∧es.length≤4:=by
 obtain⟨c,hc⟩:∃c,p.dts[i]? =some c:=⟨p.dts[i],by simp[hi]⟩
 obtain⟨u0,u1,u2,u3,u4,ub,tU⟩:=town_at (n:=n) (p:=p) (s:=c.fr) (by omega) (by omega)
 obtain⟨v0,v1,v2,v3,v4,vb,tV⟩:=town_at (n:=n) (p:=p) (s:=c.to) (by omega) (by omega)
 have tU1:=fun st S=>(tU st S).1
 have tV1:=fun st S=>(tV st S).1
 have oU:=(tU false []).2
 have oV:=(tV false []).2
 have hus:=Pusable_c (n:=n) (by omega) c
 generalize (decide (1≤c.mi) && decide (c.mi≤20000))=us at hus
 have hpe:p.enc=[.sl 5 (p.aps.map Apt.enc) p.apsx,.sl 3 (p.dts.map Dst.enc) p.dtsx]:=rfl
 have hce:c.enc=[.str c.fr,.str c.to,.int .i64 c.mi]:=rfl
 rw[hpe]at tU1 tV1
 rw[hce]at hus
 simp only[List.all_cons,List.all_nil,Bool.and_true,Bool.and_eq_true,D.one]at oU oV
 refine wo_dcall Tryz.func43 rfl (by decide) rfl 99 rfl (fun a hal ha=>?_)
 have h0:a[0]? =some (.agg p.enc):=ha 0 (by simp)
 have h1:a[1]? =some (.int .i64 i):=ha 1 (by simp)
 clear ha
 rw[hpe]at h0
 rw[wc_asc,wc_asc,wc_asc,wc_asc]
 refine wc_scut (fun a T=>∃(d:D) (es:List Int),a.length=99∧a[1]? =some (.int .i64 i)∧a[2]? =some (.loc 0 0 0)∧a[5]? =some (d)∧a[6]? =some (.loc 1 0 0)∧GL 1 encI T d es∧es.length≤0∧T[0]? =some (.row 2 [p.enc])∧T[1]? =some (.row 3 [c.enc])∧a[8]? =some (.bool ub)∧a[10]? =some (.bool vb)) ?_ ?_
 ·simp(maxSteps:=1000000)(disch:=omega)only[push_cast,decide_not,decide_eq_true_eq,decide_eq_false_iff_not,bne_eq_false_iff_eq,beq_eq_false_iff_ne,gt_iff_lt,ne_eq,not_true_eq_false,not_false_eq_true,hal,h0,h1,hpe,hi,hc,hce,tU1,tV1,oU,oV,set_end,get_end,↓WX,simprocAttr]
  exact⟨_,[],rfl,.nil,Nat.le_refl _⟩
 clear hal h0 h1 a
 clear tU tV tU1 tV1 oU oV
 rintro a T ⟨d,es,hal,h1,h2,h5,h6,hg,hes,hT0,hT1,h8,h10⟩
 refine wc_scut (fun a T=>∃(d:D) (es:List Int),a.length=99∧a[1]? =some (.int .i64 i)∧a[2]? =some (.loc 0 0 0)∧a[5]? =some (d)∧a[6]? =some (.loc 1 0 0)∧GL 1 encI T d es∧es.length≤1∧T[0]? =some (.row 2 [p.enc])∧T[1]? =some (.row 3 [c.enc])) ?_ ?_
 ·obtain⟨W,hW,hgW,-,-,hkW⟩:=app_err hg (by omega) 14
  have hW0:=hkW _ _ _ (by decide) hT0
  have hW1:=hkW _ _ _ (by decide) hT1
  cases ub
  ·simp(maxSteps:=1000000)(disch:=omega)only[push_cast,decide_not,decide_eq_true_eq,decide_eq_false_iff_not,bne_eq_false_iff_eq,beq_eq_false_iff_ne,gt_iff_lt,ne_eq,not_true_eq_false,not_false_eq_true,hal,h1,h2,h5,h6,h8,h10,hW,↓WX,simprocAttr]
   exact⟨_,es++[14],rfl,hgW,by rw[List.length_append];exact Nat.succ_le_succ hes,hW0,hW1⟩
  cases vb
  ·simp(maxSteps:=1000000)(disch:=omega)only[push_cast,decide_not,decide_eq_true_eq,decide_eq_false_iff_not,bne_eq_false_iff_eq,beq_eq_false_iff_ne,gt_iff_lt,ne_eq,not_true_eq_false,not_false_eq_true,hal,h1,h2,h5,h6,h8,h10,hW,↓WX,simprocAttr]
   exact⟨_,es++[14],rfl,hgW,by rw[List.length_append];exact Nat.succ_le_succ hes,hW0,hW1⟩
  ·simp(maxSteps:=1000000)(disch:=omega)only[push_cast,decide_not,decide_eq_true_eq,decide_eq_false_iff_not,bne_eq_false_iff_eq,beq_eq_false_iff_ne,gt_iff_lt,ne_eq,not_true_eq_false,not_false_eq_true,hal,h1,h2,h5,h6,h8,h10,↓WX,simprocAttr]
   exact⟨d,_,rfl,hg,by omega,hT0,hT1⟩
 clear hal h1 h2 h5 h6 h8 h10 hg hes hT0 hT1 d es a T
 rintro a T ⟨d,es,hal,h1,h2,h5,h6,hg,hes,hT0,hT1⟩
 have hT0':=hT0
 have hT1':=hT1
 rw[hpe]at hT0'
 rw[hce]at hT1'
 have hl1:1<T.length:=(List.getElem?_eq_some_iff.1 hT1).1
 refine wc_scut (fun a T'=>T'=T∧a.length=99∧a[1]? =some (.int .i64 i)∧a[2]? =some (.loc 0 0 0)∧a[5]? =some (d)∧a[6]? =some (.loc 1 0 0)∧a[11]? =some (.bool false)) ?_ ?_
 ·simp(maxSteps:=1000000)(disch:=omega)only[push_cast,decide_not,decide_eq_true_eq,decide_eq_false_iff_not,bne_eq_false_iff_eq,beq_eq_false_iff_ne,gt_iff_lt,ne_eq,not_true_eq_false,not_false_eq_true,hal,h1,h2,h5,h6,↓WX,simprocAttr]
 clear hal h1 h2 h5 h6 a
 rintro a T' ⟨rfl,hal,h1,h2,h5,h6,h11⟩
 refine wc_scut (fun a T=>ExtS T' T∧∃b:Bool,a.length=99∧a[1]? =some (.int .i64 i)∧a[2]? =some (.loc 0 0 0)∧a[5]? =some (d)∧a[6]? =some (.loc 1 0 0)∧a[11]? =some (.bool b)) ?_ ?_
 ·simp(maxSteps:=1000000)(disch:=omega)only[push_cast,decide_not,decide_eq_true_eq,decide_eq_false_iff_not,bne_eq_false_iff_eq,beq_eq_false_iff_ne,gt_iff_lt,ne_eq,not_true_eq_false,not_false_eq_true,hal,h1,h2,h5,h6,h11,↓WX,simprocAttr]
  refine wl_loop (fun k a T=>ExtS T' T∧∃b:Bool,a.length=99∧a[1]? =some (.int .i64 i)∧a[2]? =some (.loc 0 0 0)∧a[5]? =some (d)∧a[6]? =some (.loc 1 0 0)∧a[11]? =some (.bool b)∧a[12]? =some (.int .i64 k)) i ?_ (by omega) ?_
  ·simp(maxSteps:=1000000)(disch:=omega)only[push_cast,decide_not,decide_eq_true_eq,decide_eq_false_iff_not,bne_eq_false_iff_eq,beq_eq_false_iff_ne,gt_iff_lt,ne_eq,not_true_eq_false,not_false_eq_true,hal,h1,h2,h5,h6,h11,Int.natCast_zero,↓WX,simprocAttr]
   exact⟨ExtS.refl,_,rfl⟩
  clear hal h1 h2 h5 h6 h11 a
  rintro k a T hk ⟨hx,b,hal,h1,h2,h5,h6,h11,h12⟩
  rcases Nat.lt_or_eq_of_le hk with hkl |rfl
  case inr=>
   simp(maxSteps:=1000000)(disch:=omega)only[push_cast,decide_not,decide_eq_true_eq,decide_eq_false_iff_not,bne_eq_false_iff_eq,beq_eq_false_iff_ne,gt_iff_lt,ne_eq,not_true_eq_false,not_false_eq_true,hal,h1,h2,h5,h6,h11,h12,Int.lt_irrefl,Nat.lt_irrefl,↓WX,simprocAttr]
   exact⟨hx,_,rfl⟩
  obtain⟨q,hq⟩:∃q,p.dts[k]? =some q:=⟨p.dts[k]'(by omega),by simp⟩
  have hkn:k<p.dts.length:=Nat.lt_trans hkl hi
  have k0:=hx _ _ hT0'
  have k1:=hx _ _ hT1'
  have hx':∀o,ExtS T' (T++[o]):=fun o=>hx.push o
  have k0':∀o,(T++[o])[0]? =_:=fun o=>get_old k0
  have k1':∀o,(T++[o])[1]? =_:=fun o=>get_old k1
  have hqe:q.enc=[.str q.fr,.str q.to,.int .i64 q.mi]:=rfl
  cases b
  case true=>
   simp(maxSteps:=1000000)(disch:=omega)only[push_cast,decide_not,decide_eq_true_eq,decide_eq_false_iff_not,bne_eq_false_iff_eq,beq_eq_false_iff_ne,gt_iff_lt,ne_eq,not_true_eq_false,not_false_eq_true,hal,h1,h2,h5,h6,h11,h12,hkl,hkn,hq,k0,k0',k1',hqe,set_end,get_end,wrap_ok,Int.natCast_add,Int.natCast_one,↓WX,simprocAttr]
   exact⟨hx' _,_,rfl⟩
  cases e1:(q.fr.toList == c.fr.toList) <;> cases e2:(q.to.toList == c.to.toList) <;> cases e3:(q.fr.toList == c.to.toList) <;> cases e4:(q.to.toList == c.fr.toList) <;>
  ·simp(maxSteps:=1000000)(disch:=omega)only[push_cast,decide_not,decide_eq_true_eq,decide_eq_false_iff_not,bne_eq_false_iff_eq,beq_eq_false_iff_ne,gt_iff_lt,ne_eq,not_true_eq_false,not_false_eq_true,hal,h1,h2,h5,h6,h11,h12,hkl,hkn,hq,k0,k0',k1',hqe,set_end,get_end,e1,e2,e3,e4,wrap_ok,Int.natCast_add,Int.natCast_one,↓WX,simprocAttr]
   exact⟨hx' _,_,rfl⟩
 clear hal h1 h2 h5 h6 h11 a
 rintro a T ⟨hx,b,hal,h1,h2,h5,h6,h11⟩
 have hT0:=hx _ _ hT0
 have hT1:=hx _ _ hT1
 have hg:=hg.ext hx
 clear hx hT0' hT1' hl1
 refine wc_scut (fun a T=>∃(d:D) (es:List Int),a.length=99∧a[1]? =some (.int .i64 i)∧a[2]? =some (.loc 0 0 0)∧a[5]? =some (d)∧a[6]? =some (.loc 1 0 0)∧GL 1 encI T d es∧es.length≤2∧T[0]? =some (.row 2 [p.enc])∧T[1]? =some (.row 3 [c.enc])) ?_ ?_
 ·cases b
  ·simp(maxSteps:=1000000)(disch:=omega)only[push_cast,decide_not,decide_eq_true_eq,decide_eq_false_iff_not,bne_eq_false_iff_eq,beq_eq_false_iff_ne,gt_iff_lt,ne_eq,not_true_eq_false,not_false_eq_true,hal,h1,h2,h5,h6,h11,↓WX,simprocAttr]
   exact⟨d,_,rfl,hg,by omega,hT0,hT1⟩
  ·obtain⟨W,hW,hgW,-,-,hkW⟩:=app_err hg (by omega) 6
   have hW0:=hkW _ _ _ (by decide) hT0
   have hW1:=hkW _ _ _ (by decide) hT1
   simp(maxSteps:=1000000)(disch:=omega)only[push_cast,decide_not,decide_eq_true_eq,decide_eq_false_iff_not,bne_eq_false_iff_eq,beq_eq_false_iff_ne,gt_iff_lt,ne_eq,not_true_eq_false,not_false_eq_true,hal,h1,h2,h5,h6,h11,hW,↓WX,simprocAttr]
   exact⟨_,es++[6],rfl,hgW,by rw[List.length_append];exact Nat.succ_le_succ hes,hW0,hW1⟩
 clear hal h1 h2 h5 h6 h11 hg hes hT0 hT1 a T
 rintro a T ⟨d,es,hal,h1,h2,h5,h6,hg,hes,hT0,hT1⟩
 obtain⟨W,hW,hgW,-,-,hkW⟩:=app_err hg (by omega) 2
 have hW0:=hkW _ _ _ (by decide) hT0
 have hW1:=hkW _ _ _ (by decide) hT1
 rw[hce]at hT1
 cases us
 ·simp(maxSteps:=1000000)(disch:=omega)only[push_cast,decide_not,decide_eq_true_eq,decide_eq_false_iff_not,bne_eq_false_iff_eq,beq_eq_false_iff_ne,gt_iff_lt,ne_eq,not_true_eq_false,not_false_eq_true,hal,h1,h2,h5,h6,hT1,hus,hW,Tryz.f43,↓WX,simprocAttr]
  exact⟨es++[2],hgW,by rw[List.length_append];exact Nat.succ_le_succ (by omega)⟩
 cases e1:(c.fr.toList == c.to.toList)
 ·simp(maxSteps:=1000000)(disch:=omega)only[push_cast,decide_not,decide_eq_true_eq,decide_eq_false_iff_not,bne_eq_false_iff_eq,beq_eq_false_iff_ne,gt_iff_lt,ne_eq,not_true_eq_false,not_false_eq_true,hal,h1,h2,h5,h6,hT1,hus,e1,Tryz.f43,↓WX,simprocAttr]
  exact⟨_,hg,by omega⟩
 ·simp(maxSteps:=1000000)(disch:=omega)only[push_cast,decide_not,decide_eq_true_eq,decide_eq_false_iff_not,bne_eq_false_iff_eq,beq_eq_false_iff_ne,gt_iff_lt,ne_eq,not_true_eq_false,not_false_eq_true,hal,h1,h2,h5,h6,hT1,hus,e1,hW,Tryz.f43,↓WX,simprocAttr]
  exact⟨es++[2],hgW,by rw[List.length_append];exact Nat.succ_le_succ (by omega)⟩
theorem airport_c {n:Nat} {p:Plc} {i:Nat} (hn:301≤n) (hl:p.aps.length≤100) (hi:i<p.aps.length) (hz:∀c∈p.aps,AptR (n-1) c):∃d es,FLs 1 encI d es∧es.length≤4∧∀st S,callD E (dcall E n) st S 41 [.agg p.enc,.int .i64 i]=some (d,S):=by
 obtain⟨m,rfl⟩:∃m,n=m+1:=⟨n-1,by omega⟩
 obtain⟨d,T,ho,es,hg,hl⟩:=airport_d (n:=m) (by omega) hl hi hz
 obtain⟨d',hf,hz⟩:=hg.fls (encI_pure es)
 exact⟨d',es,hz,hl,fun st S=>callD_pure rfl (by simp[pureL_cons,pureL_nil,D.pure,Plc_pure]) ho hf⟩
theorem distance_c {n:Nat} {p:Plc} {i:Nat} (hn:301≤n) (hl:p.aps.length≤100) (hld:p.dts.length≤100) (hi:i<p.dts.length):∃d es,FLs 1 encI d es∧es.length≤4∧∀st S,callD E (dcall E n) st S 43 [.agg p.enc,.int .i64 i]=some (d,S):=by
 obtain⟨m,rfl⟩:∃m,n=m+1:=⟨n-1,by omega⟩
 obtain⟨d,T,ho,es,hg,hl⟩:=distance_d (n:=m) (by omega) hl hld hi
 obtain⟨d',hf,hz⟩:=hg.fls (encI_pure es)
 exact⟨d',es,hz,hl,fun st S=>callD_pure rfl (by simp[pureL_cons,pureL_nil,D.pure,Plc_pure]) ho hf⟩

def NZ (d:D):Prop:=∀n,d=.os 0 0 n false→False
theorem max_txt {s:ByteArray} (h:s.size≤100) (i:Nat):¬IntKind.i64.max<(s.size:Int)+((dec2 i).size:Int):=by
 have:=dec2_size i
 show ¬(9223372036854775807:Int)<_
 omega
set_option maxHeartbeats 8000000 in
set_option maxRecDepth 100000 in
theorem PCheck_d {n:Nat} {p:Plc} (hn:1000≤n) (hl:p.aps.length≤40) (hld:p.dts.length≤40) (hz:∀c∈p.aps,AptR (n-1) c):
  WO (dcall E (n+1) 20 [.agg p.enc] []) fun d T=>∃fs,GV T d fs∧fs.length≤320:=by
 have hpe:p.enc=[.sl 5 (p.aps.map Apt.enc) p.apsx,.sl 3 (p.dts.map Dst.enc) p.dtsx]:=rfl
 have lens:(p.aps.map Apt.enc).length=p.aps.length:=by simp
 have lend:(p.dts.map Dst.enc).length=p.dts.length:=by simp
 refine wo_dcall Tryz.func20 rfl (by decide) rfl 65 rfl (fun a hal ha=>?_)
 have h0:a[0]? =some (.agg p.enc):=ha 0 (by simp)
 clear ha
 rw[wc_asc]
 refine wc_scut (fun a T=>a.length=65∧a[1]? =some (.loc 0 0 0)∧a[3]? =some (.nils)∧T=[.row 2 [p.enc]]) ?_ ?_
 ·rw[hpe]at h0 ⊢
  simp(maxSteps:=1000000)(disch:=omega)only[push_cast,decide_not,decide_eq_true_eq,decide_eq_false_iff_not,bne_eq_false_iff_eq,beq_eq_false_iff_ne,gt_iff_lt,ne_eq,not_true_eq_false,not_false_eq_true,hal,h0,↓WX,simprocAttr]
 clear hal h0 a
 rintro a T ⟨hal,h1,h3,rfl⟩
 refine wc_scut (fun a T=>∃(d:D) (fs:List (Int×ByteArray)),a.length=65∧a[1]? =some (.loc 0 0 0)∧a[3]? =some (d)∧GV T d fs∧fs.length≤4*p.aps.length∧T[0]? =some (.row 2 [p.enc])∧NZ d) ?_ ?_
 ·simp(maxSteps:=1000000)(disch:=omega)only[push_cast,decide_not,decide_eq_true_eq,decide_eq_false_iff_not,bne_eq_false_iff_eq,beq_eq_false_iff_ne,gt_iff_lt,ne_eq,not_true_eq_false,not_false_eq_true,hal,h1,h3,↓WX,simprocAttr]
  refine wl_loop (fun i a T=>∃(d:D) (fs:List (Int×ByteArray)),a.length=65∧a[1]? =some (.loc 0 0 0)∧a[3]? =some (d)∧a[4]? =some (.int .i64 i)∧GV T d fs∧fs.length≤4*i∧T[0]? =some (.row 2 [p.enc])∧NZ d) p.aps.length ?_ (by omega) ?_
  ·simp(maxSteps:=1000000)(disch:=omega)only[push_cast,decide_not,decide_eq_true_eq,decide_eq_false_iff_not,bne_eq_false_iff_eq,beq_eq_false_iff_ne,gt_iff_lt,ne_eq,not_true_eq_false,not_false_eq_true,hal,h1,h3,Int.natCast_zero,↓WX,simprocAttr]
   exact⟨_,[],rfl,.inl ⟨rfl,rfl⟩,by simp,fun n h=>by cases h⟩
  clear hal h1 h3 a
  rintro i a T hi ⟨d,fs,hal,h1,h3,h4,hg,hfs,hT0,hnz⟩
  have hT0':=hT0
  rw[hpe]at hT0'
  rcases Nat.lt_or_eq_of_le hi with hlt |rfl
  case inr=>
   simp(maxSteps:=1000000)(disch:=omega)only[push_cast,decide_not,decide_eq_true_eq,decide_eq_false_iff_not,bne_eq_false_iff_eq,beq_eq_false_iff_ne,gt_iff_lt,ne_eq,not_true_eq_false,not_false_eq_true,hal,h1,h3,h4,hT0',lens,Nat.lt_irrefl,↓WX,simprocAttr]
   exact⟨d,fs,rfl,hg,hfs,rfl,hnz⟩
  obtain⟨l,es,hle,hes,ca⟩:=airport_c (n:=n) (p:=p) (i:=i) (by omega) (by omega) hlt hz
  rw[hpe]at ca
  have hlp:l.pure=true:=hle.pure (encI_pure es)
  refine wc_scut (fun a T'=>T'=T∧a.length=65∧a[1]? =some (.loc 0 0 0)∧a[3]? =some (d)∧a[4]? =some (.int .i64 i)) ?_ ?_
  ·simp(maxSteps:=1000000)(disch:=omega)only[push_cast,decide_not,decide_eq_true_eq,decide_eq_false_iff_not,bne_eq_false_iff_eq,beq_eq_false_iff_ne,gt_iff_lt,ne_eq,not_true_eq_false,not_false_eq_true,hal,h1,h3,h4,hT0',lens,hlt,↓WX,simprocAttr]
  clear hal h1 h3 h4 a
  rintro a T' ⟨rfl,hal,h1,h3,h4⟩
  refine wc_scut (fun a T=>∃(d:D) (fs:List (Int×ByteArray)),a.length=65∧a[1]? =some (.loc 0 0 0)∧a[3]? =some (d)∧a[4]? =some (.int .i64 i)∧GV T d fs∧fs.length≤4*(i+1)∧T[0]? =some (.row 2 [p.enc])∧NZ d) ?_ ?_
  case refine_2=>
   clear hal h1 h3 h4 hg hfs hT0 hT0' hnz d fs a T'
   rintro a T ⟨d,fs,hal,h1,h3,h4,hg,hfs,hT0,hnz⟩
   simp(maxSteps:=1000000)(disch:=omega)only[push_cast,decide_not,decide_eq_true_eq,decide_eq_false_iff_not,bne_eq_false_iff_eq,beq_eq_false_iff_ne,gt_iff_lt,ne_eq,not_true_eq_false,not_false_eq_true,hal,h1,h3,h4,wrap_ok,Int.natCast_add,Int.natCast_one,↓WX,simprocAttr]
   exact⟨hlt,d,fs,rfl,hg,hfs,hT0,hnz⟩
  rw[wc_block]
  refine wc_scut (fun a T=>T=T'∧a.length=65∧a[1]? =some (.loc 0 0 0)∧a[3]? =some (d)∧a[4]? =some (.int .i64 i)∧a[5]? =some (l)) ?_ ?_
  ·simp(maxSteps:=1000000)(disch:=omega)only[push_cast,decide_not,decide_eq_true_eq,decide_eq_false_iff_not,bne_eq_false_iff_eq,beq_eq_false_iff_ne,gt_iff_lt,ne_eq,not_true_eq_false,not_false_eq_true,hal,h1,h3,h4,hT0',ca,↓WX,simprocAttr]
  clear hal h1 h3 h4 a
  rintro a T ⟨rfl,hal,h1,h3,h4,h5⟩
  have ci:=rdec2_c (n:=n) (by omega) (i:=i) (by omega)
  have hmx:=max_txt (s:=ByteArray.mk #[97,105,114,112,111,114,116,32]) (by decide) i
  simp(maxSteps:=1000000)(disch:=omega)only[push_cast,decide_not,decide_eq_true_eq,decide_eq_false_iff_not,bne_eq_false_iff_eq,beq_eq_false_iff_ne,gt_iff_lt,ne_eq,not_true_eq_false,not_false_eq_true,hal,h1,h3,h4,h5,↓WX,simprocAttr]
  refine wl_loop (fun k a T=>∃(d:D) (fs:List (Int×ByteArray)),a.length=65∧a[1]? =some (.loc 0 0 0)∧a[3]? =some (d)∧a[4]? =some (.int .i64 i)∧a[5]? =some (l)∧a[6]? =some (.int .i64 k)∧GV T d fs∧fs.length≤4*i+k∧T[0]? =some (.row 2 [p.enc])∧NZ d) es.length ?_ (by omega) ?_
  ·simp(maxSteps:=1000000)(disch:=omega)only[push_cast,decide_not,decide_eq_true_eq,decide_eq_false_iff_not,bne_eq_false_iff_eq,beq_eq_false_iff_ne,gt_iff_lt,ne_eq,not_true_eq_false,not_false_eq_true,hal,h1,h3,h4,h5,Int.natCast_zero,↓WX,simprocAttr]
   exact⟨d,fs,rfl,hg,by omega,hT0,hnz⟩
  clear hal h1 h3 h4 h5 hg hfs hT0 hT0' hnz d fs a T
  rintro k a T hk ⟨d,fs,hal,h1,h3,h4,h5,h6,hg,hfs,hT0,hnz⟩
  have hT0':=hT0
  rw[hpe]at hT0'
  rcases hle with ⟨rfl,rfl⟩ | ⟨x,rfl⟩
  ·obtain rfl:k=0:=by simpa using hk
   simp only[Int.natCast_zero]at h6
   simp(maxSteps:=1000000)(disch:=omega)only[push_cast,decide_not,decide_eq_true_eq,decide_eq_false_iff_not,bne_eq_false_iff_eq,beq_eq_false_iff_ne,gt_iff_lt,ne_eq,not_true_eq_false,not_false_eq_true,hal,h1,h3,h4,h5,h6,Int.lt_irrefl,↓WX,simprocAttr]
   exact⟨d,fs,rfl,hg,by omega,hT0,hnz⟩
  rcases Nat.lt_or_eq_of_le hk with hkl |rfl
  case inr=>
   simp(maxSteps:=1000000)(disch:=omega)only[push_cast,decide_not,decide_eq_true_eq,decide_eq_false_iff_not,bne_eq_false_iff_eq,beq_eq_false_iff_ne,gt_iff_lt,ne_eq,not_true_eq_false,not_false_eq_true,hal,h1,h3,h4,h5,h6,Nat.lt_irrefl,↓WX,simprocAttr]
   exact⟨d,fs,rfl,hg,by omega,hT0,hnz⟩
  obtain⟨e,he⟩:∃e,es[k]? =some e:=⟨es[k],by simp⟩
  have hlt0:0<T.length:=(List.getElem?_eq_some_iff.1 hT0).1
  obtain⟨W,hW,hgW,-,hkW⟩:=app_g hg (by omega) e (ByteArray.mk #[97,105,114,112,111,114,116,32]++dec2 i)
  have hW0:=hkW _ _ hnz hT0
  simp(maxSteps:=1000000)(disch:=omega)only[push_cast,decide_not,decide_eq_true_eq,decide_eq_false_iff_not,bne_eq_false_iff_eq,beq_eq_false_iff_ne,gt_iff_lt,ne_eq,not_true_eq_false,not_false_eq_true,hal,h1,h3,h4,h5,h6,hkl,he,encI,ci,hmx,hW,wrap_ok,Int.natCast_add,Int.natCast_one,↓WX,simprocAttr]
  exact⟨_,_,rfl,hgW,by rw[List.length_append];exact Nat.succ_le_succ hfs,hW0,fun n h=>by simp only[D.os.injEq]at h;omega⟩
 clear hal h1 h3 a
 rintro a T ⟨d,fs,hal,h1,h3,hg,hfs,hT0,hnz⟩
 refine wc_scut (fun a T=>∃(d:D) (fs:List (Int×ByteArray)),a.length=65∧a[1]? =some (.loc 0 0 0)∧a[3]? =some (d)∧GV T d fs∧fs.length≤160+4*p.dts.length∧T[0]? =some (.row 2 [p.enc])∧NZ d) ?_ ?_
 ·simp(maxSteps:=1000000)(disch:=omega)only[push_cast,decide_not,decide_eq_true_eq,decide_eq_false_iff_not,bne_eq_false_iff_eq,beq_eq_false_iff_ne,gt_iff_lt,ne_eq,not_true_eq_false,not_false_eq_true,hal,h1,h3,↓WX,simprocAttr]
  refine wl_loop (fun i a T=>∃(d:D) (fs:List (Int×ByteArray)),a.length=65∧a[1]? =some (.loc 0 0 0)∧a[3]? =some (d)∧a[7]? =some (.int .i64 i)∧GV T d fs∧fs.length≤160+4*i∧T[0]? =some (.row 2 [p.enc])∧NZ d) p.dts.length ?_ (by omega) ?_
  ·simp(maxSteps:=1000000)(disch:=omega)only[push_cast,decide_not,decide_eq_true_eq,decide_eq_false_iff_not,bne_eq_false_iff_eq,beq_eq_false_iff_ne,gt_iff_lt,ne_eq,not_true_eq_false,not_false_eq_true,hal,h1,h3,Int.natCast_zero,↓WX,simprocAttr]
   exact⟨d,fs,rfl,hg,by omega,hT0,hnz⟩
  clear hal h1 h3 hg hfs hT0 hnz d fs a T
  rintro i a T hi ⟨d,fs,hal,h1,h3,h7,hg,hfs,hT0,hnz⟩
  have hT0':=hT0
  rw[hpe]at hT0'
  rcases Nat.lt_or_eq_of_le hi with hlt |rfl
  case inr=>
   simp(maxSteps:=1000000)(disch:=omega)only[push_cast,decide_not,decide_eq_true_eq,decide_eq_false_iff_not,bne_eq_false_iff_eq,beq_eq_false_iff_ne,gt_iff_lt,ne_eq,not_true_eq_false,not_false_eq_true,hal,h1,h3,h7,hT0',lend,Nat.lt_irrefl,↓WX,simprocAttr]
   exact⟨d,fs,rfl,hg,hfs,rfl,hnz⟩
  obtain⟨l,es,hle,hes,ca⟩:=distance_c (n:=n) (p:=p) (i:=i) (by omega) (by omega) (by omega) hlt
  rw[hpe]at ca
  have hlp:l.pure=true:=hle.pure (encI_pure es)
  refine wc_scut (fun a T'=>T'=T∧a.length=65∧a[1]? =some (.loc 0 0 0)∧a[3]? =some (d)∧a[7]? =some (.int .i64 i)) ?_ ?_
  ·simp(maxSteps:=1000000)(disch:=omega)only[push_cast,decide_not,decide_eq_true_eq,decide_eq_false_iff_not,bne_eq_false_iff_eq,beq_eq_false_iff_ne,gt_iff_lt,ne_eq,not_true_eq_false,not_false_eq_true,hal,h1,h3,h7,hT0',lend,hlt,↓WX,simprocAttr]
  clear hal h1 h3 h7 a
  rintro a T' ⟨rfl,hal,h1,h3,h7⟩
  refine wc_scut (fun a T=>∃(d:D) (fs:List (Int×ByteArray)),a.length=65∧a[1]? =some (.loc 0 0 0)∧a[3]? =some (d)∧a[7]? =some (.int .i64 i)∧GV T d fs∧fs.length≤160+4*(i+1)∧T[0]? =some (.row 2 [p.enc])∧NZ d) ?_ ?_
  case refine_2=>
   clear hal h1 h3 h7 hg hfs hT0 hT0' hnz d fs a T'
   rintro a T ⟨d,fs,hal,h1,h3,h7,hg,hfs,hT0,hnz⟩
   simp(maxSteps:=1000000)(disch:=omega)only[push_cast,decide_not,decide_eq_true_eq,decide_eq_false_iff_not,bne_eq_false_iff_eq,beq_eq_false_iff_ne,gt_iff_lt,ne_eq,not_true_eq_false,not_false_eq_true,hal,h1,h3,h7,wrap_ok,Int.natCast_add,Int.natCast_one,↓WX,simprocAttr]
   exact⟨hlt,d,fs,rfl,hg,hfs,hT0,hnz⟩
  rw[wc_block]
  refine wc_scut (fun a T=>T=T'∧a.length=65∧a[1]? =some (.loc 0 0 0)∧a[3]? =some (d)∧a[7]? =some (.int .i64 i)∧a[8]? =some (l)) ?_ ?_
  ·simp(maxSteps:=1000000)(disch:=omega)only[push_cast,decide_not,decide_eq_true_eq,decide_eq_false_iff_not,bne_eq_false_iff_eq,beq_eq_false_iff_ne,gt_iff_lt,ne_eq,not_true_eq_false,not_false_eq_true,hal,h1,h3,h7,hT0',ca,↓WX,simprocAttr]
  clear hal h1 h3 h7 a
  rintro a T ⟨rfl,hal,h1,h3,h7,h8⟩
  have ci:=rdec2_c (n:=n) (by omega) (i:=i) (by omega)
  have hmx:=max_txt (s:=ByteArray.mk #[100,105,115,116,97,110,99,101,32]) (by decide) i
  simp(maxSteps:=1000000)(disch:=omega)only[push_cast,decide_not,decide_eq_true_eq,decide_eq_false_iff_not,bne_eq_false_iff_eq,beq_eq_false_iff_ne,gt_iff_lt,ne_eq,not_true_eq_false,not_false_eq_true,hal,h1,h3,h7,h8,↓WX,simprocAttr]
  refine wl_loop (fun k a T=>∃(d:D) (fs:List (Int×ByteArray)),a.length=65∧a[1]? =some (.loc 0 0 0)∧a[3]? =some (d)∧a[7]? =some (.int .i64 i)∧a[8]? =some (l)∧a[9]? =some (.int .i64 k)∧GV T d fs∧fs.length≤160+4*i+k∧T[0]? =some (.row 2 [p.enc])∧NZ d) es.length ?_ (by omega) ?_
  ·simp(maxSteps:=1000000)(disch:=omega)only[push_cast,decide_not,decide_eq_true_eq,decide_eq_false_iff_not,bne_eq_false_iff_eq,beq_eq_false_iff_ne,gt_iff_lt,ne_eq,not_true_eq_false,not_false_eq_true,hal,h1,h3,h7,h8,Int.natCast_zero,↓WX,simprocAttr]
   exact⟨d,fs,rfl,hg,by omega,hT0,hnz⟩
  clear hal h1 h3 h7 h8 hg hfs hT0 hT0' hnz d fs a T
  rintro k a T hk ⟨d,fs,hal,h1,h3,h7,h8,h9,hg,hfs,hT0,hnz⟩
  have hT0':=hT0
  rw[hpe]at hT0'
  rcases hle with ⟨rfl,rfl⟩ | ⟨x,rfl⟩
  ·obtain rfl:k=0:=by simpa using hk
   simp only[Int.natCast_zero]at h9
   simp(maxSteps:=1000000)(disch:=omega)only[push_cast,decide_not,decide_eq_true_eq,decide_eq_false_iff_not,bne_eq_false_iff_eq,beq_eq_false_iff_ne,gt_iff_lt,ne_eq,not_true_eq_false,not_false_eq_true,hal,h1,h3,h7,h8,h9,Int.lt_irrefl,↓WX,simprocAttr]
   exact⟨d,fs,rfl,hg,by omega,hT0,hnz⟩
  rcases Nat.lt_or_eq_of_le hk with hkl |rfl
  case inr=>
   simp(maxSteps:=1000000)(disch:=omega)only[push_cast,decide_not,decide_eq_true_eq,decide_eq_false_iff_not,bne_eq_false_iff_eq,beq_eq_false_iff_ne,gt_iff_lt,ne_eq,not_true_eq_false,not_false_eq_true,hal,h1,h3,h7,h8,h9,Nat.lt_irrefl,↓WX,simprocAttr]
   exact⟨d,fs,rfl,hg,by omega,hT0,hnz⟩
  obtain⟨e,he⟩:∃e,es[k]? =some e:=⟨es[k],by simp⟩
  have hlt0:0<T.length:=(List.getElem?_eq_some_iff.1 hT0).1
  obtain⟨W,hW,hgW,-,hkW⟩:=app_g hg (by omega) e (ByteArray.mk #[100,105,115,116,97,110,99,101,32]++dec2 i)
  have hW0:=hkW _ _ hnz hT0
  simp(maxSteps:=1000000)(disch:=omega)only[push_cast,decide_not,decide_eq_true_eq,decide_eq_false_iff_not,bne_eq_false_iff_eq,beq_eq_false_iff_ne,gt_iff_lt,ne_eq,not_true_eq_false,not_false_eq_true,hal,h1,h3,h7,h8,h9,hkl,he,encI,ci,hmx,hW,wrap_ok,Int.natCast_add,Int.natCast_one,↓WX,simprocAttr]
  exact⟨_,_,rfl,hgW,by rw[List.length_append];exact Nat.succ_le_succ hfs,hW0,fun n h=>by simp only[D.os.injEq]at h;omega⟩
 clear hal h1 h3 hg hfs hT0 hnz d fs a T
 rintro a T ⟨d,fs,hal,h1,h3,hg,hfs,hT0,hnz⟩
 simp(maxSteps:=1000000)(disch:=omega)only[push_cast,decide_not,decide_eq_true_eq,decide_eq_false_iff_not,bne_eq_false_iff_eq,beq_eq_false_iff_ne,gt_iff_lt,ne_eq,not_true_eq_false,not_false_eq_true,hal,h1,h3,Tryz.f20,↓WX,simprocAttr]
 exact⟨fs,hg,by omega⟩
theorem PCheck_c {n:Nat} {p:Plc} (hn:1001≤n) (hl:p.aps.length≤40) (hld:p.dts.length≤40) (hz:∀c∈p.aps,AptR (n-2) c):∃d fs,FZ d fs∧fs.length≤320∧∀st S,callD E (dcall E n) st S 20 [.agg p.enc]=some (d,S):=by
 obtain⟨m,rfl⟩:∃m,n=m+1:=⟨n-1,by omega⟩
 obtain⟨d,T,ho,fs,hg,hl⟩:=PCheck_d (n:=m) (by omega) hl hld hz
 obtain⟨d',hf,hz⟩:=FV.fz hg.fv
 exact⟨d',fs,hz,hl,fun st S=>callD_pure rfl (by simp[pureL_cons,pureL_nil,D.pure,Plc_pure]) ho hf⟩
end Go.Proofs.YtaklebjoenophaaGreat.Dm
