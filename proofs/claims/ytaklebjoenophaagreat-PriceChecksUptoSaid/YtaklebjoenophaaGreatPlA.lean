/-
  The machine at places: airports and towns are found, and the city of a code: the program's and the reference's.
  The machine at the reference's check of places: it hands back a list of violations.
  The machine at the reference's check of places: airports, distances, all.
  The machine at the reference's check of places: it hands back a list of violations.
-/
import Derived.Test.YtaklebjoenophaaGreatEnvB
import Derived.Test.YtaklebjoenophaaGreatWq
import Derived.Test.YtaklebjoenophaaGreatPoC
set_option maxHeartbeats 64000000
set_option maxRecDepth 100000
set_option linter.unusedSimpArgs false
set_option linter.unusedVariables false
namespace Go.Proofs.YtaklebjoenophaaGreat.Dm
open Go Gw
def zeroApt:List D:=[.str (ByteArray.mk #[]),.str (ByteArray.mk #[]),.str (ByteArray.mk #[]),.int .i64 0,.nils]
def Xy:Option Apt->D
 |some a=>.tup [.agg a.enc,.bool true]
 |none=>.tup [.agg zeroApt,.bool false]
theorem foundD_pure (o:Option Apt):(Xy o).pure=true:=by
 rcases o with _ |a
 ·rfl
 ·simp[Xy,D.pure,Yc,Yg,Apt_pure]
def Kb (p:Plc) (s:ByteArray):ByteArray:=
 match p.aps.find? λa=>a.code.toList == s.toList with
 |some a=>a.city
 |none=>match p.aps.find? λa=>a.city.toList == s.toList with
  |some _=>s
  |none=>ByteArray.mk #[]
theorem PFind_d {n:Nat} {p:Plc} {s:ByteArray} (hn:p.aps.length<n) (hz:p.aps.length<=9223372036854775800):WO (Yb E (n+1) 120 [.agg p.enc,.str s] []) λd _=>d=Xy (p.aps.find? λa=>a.code.toList == s.toList):=by
 refine Ye Tryz.func120 rfl (by decide) rfl 22 rfl (λa hal ha=>?_)
 obtain⟨h0,h1⟩:=aQ2 ha
 clear ha
 simp only[Plc.enc]at h0
 simp only[push_cast,hal,h0,↓WX,simprocAttr]
 refine Yk (λi a T=>a.length=22/\a[1]?=some (.str s)/\a[4]?=some (.loc 1 0 0)/\a[9]?=some (.sl 5 (p.aps.map Apt.enc) p.apsx)/\a[10]?=some (.int .i64 p.aps.length)/\a[11]?=some (.int .i64 i)/\(∃r,T[1]?=some (.row 5 [r])/\r.length=5)/\(p.aps.find? λa=>a.code.toList == s.toList)=(p.aps.drop i).find? λa=>a.code.toList == s.toList) p.aps.length ?_ (by omega) ?_
 ·simp only[push_cast,hal,h1,simprocAttr,WY]
  exact⟨_,rfl,rfl⟩
 rintro i a T hi ⟨hal,h1,h4,h9,h10,h11,⟨r,hr,hrl⟩,hv⟩
 obtain⟨r0,r1,r2,r3,r4,rfl⟩:∃r0 r1 r2 r3 r4,r=[r0,r1,r2,r3,r4]:=by
  match r,hrl with
  | [r0,r1,r2,r3,r4],_=>exact⟨_,_,_,_,_,rfl⟩
 have hlT:1<T.length:=(Kr.1 hr).1
 rcases Kw hi with hlt |rfl
 ·obtain⟨c,hc⟩:∃c,p.aps[i]?=some c:=⟨p.aps[i],by simp[hlt]⟩
  rw[Yu hc,List.find?_cons]at hv
  have hr2:(T++[Ob.row 5 [c.enc]])[1]?=some (.row 5 [[r0,r1,r2,r3,r4]]):=Ym hr
  have hne:(T.length=1)=False:=eq_false (by omega)
  cases e:(c.code.toList == s.toList)
  ·rw[e]at hv
   simp(maxSteps:=1000000)(disch:=omega)only[push_cast,hal,h1,h4,h9,h10,h11,hlt,hc,Apt.enc,Yq,Yl,e,Yf,Int.natCast_add,Int.natCast_one,↓WX,simprocAttr]
   exact⟨⟨_,Ym hr,rfl⟩,hv⟩
  ·rw[e]at hv
   simp only[Apt.enc]at hr2
   simp(maxSteps:=1000000)(disch:=omega)only[push_cast,hal,h1,h4,h9,h10,h11,hlt,hc,Apt.enc,Yq,Yl,e,hr2,hv,Xy,Ku,Nat.lt_add_right,Tryz.f120,↓WX,simprocAttr]
 ·rw[Vj,List.find?_nil]at hv
  simp only[push_cast,hal,h4,h10,h11,Vl,hr,hlT,hv,Xy,hrl,Tryz.f120,↓WX,simprocAttr]
  rfl
theorem PrFind_d {n:Nat} {p:Plc} {s:ByteArray} (hn:p.aps.length<n) (hz:p.aps.length<=9223372036854775800):WO (Yb E (n+1) 138 [.agg p.enc,.str s] []) λd _=>d=Xy (p.aps.find? λa=>a.code.toList == s.toList):=by
 refine Ye Tryz.func138 rfl (by decide) rfl 28 rfl (λa hal ha=>?_)
 obtain⟨h0,h1⟩:=aQ2 ha
 clear ha
 simp only[Plc.enc]at h0
 simp only[push_cast,h0,↓WX,simprocAttr]
 refine Yk (λi a T=>a.length=28/\a[1]?=some (.str s)/\a[2]?=some (.loc 0 0 0)/\a[4]?=some (.loc 1 0 0)/\a[6]?=some (.int .i64 i)/\(T[0]?=some (.row 2 [[.sl 5 (p.aps.map Apt.enc) p.apsx,.sl 3 (p.dts.map Dst.enc) p.dtsx]])/\T[1]?=some (.row 5 [[.str (ByteArray.mk #[]),.str (ByteArray.mk #[]),.str (ByteArray.mk #[]),.int .i64 0,.nils]]))/\(p.aps.find? λa=>a.code.toList == s.toList)=(p.aps.drop i).find? λa=>a.code.toList == s.toList) p.aps.length ?_ (by omega) ?_
 ·simp only[push_cast,hal,h1,simprocAttr,WY]
 rintro i a T hi ⟨hal,h1,h2,h4,h6,⟨hp,hr⟩,hv⟩
 have hlT:1<T.length:=(Kr.1 hr).1
 rcases Kw hi with hlt |rfl
 ·obtain⟨c,hc⟩:∃c,p.aps[i]?=some c:=⟨p.aps[i],by simp[hlt]⟩
  rw[Yu hc,List.find?_cons]at hv
  cases e:(c.code.toList == s.toList)
  ·rw[e]at hv
   simp(disch:=omega)only[push_cast,hal,h1,h2,h4,h6,hlt,hc,hp,Apt.enc,e,Yf,↓WX,simprocAttr,WY]
   exact⟨hr,hv⟩
  ·rw[e]at hv
   simp only[push_cast,hal,h1,h2,h4,h6,hlt,hc,hp,hr,Apt.enc,e,hv,Xy,hlT,Tryz.f138,↓WX,simprocAttr]
 ·rw[Vj,List.find?_nil]at hv
  simp only[push_cast,hal,h2,h4,h6,Vl,hp,hr,hv,Xy,hlT,Tryz.f138,↓WX,simprocAttr]
  rfl
theorem PFind_c {n:Nat} {p:Plc} {s:ByteArray} (hn:p.aps.length+1<n) (hz:p.aps.length<=9223372036854775800) (st:Bool) (S:List Ob):Yi E (Yb E n) st S 120 [.agg p.enc,.str s]=some (Xy (p.aps.find? λa=>a.code.toList == s.toList),S):=by
 obtain⟨m,rfl⟩:∃m,n=m+1:=⟨n-1,by omega⟩
 obtain⟨d,T,ho,rfl⟩:=PFind_d (n:=m) (p:=p) (s:=s) (by omega) hz
 exact Yd rfl (by simp[Yc,Yg,D.pure,Yt]) ho (Yy (foundD_pure _))
theorem PrFind_c {n:Nat} {p:Plc} {s:ByteArray} (hn:p.aps.length+1<n) (hz:p.aps.length<=9223372036854775800) (st:Bool) (S:List Ob):Yi E (Yb E n) st S 138 [.agg p.enc,.str s]=some (Xy (p.aps.find? λa=>a.code.toList == s.toList),S):=by
 obtain⟨m,rfl⟩:∃m,n=m+1:=⟨n-1,by omega⟩
 obtain⟨d,T,ho,rfl⟩:=PrFind_d (n:=m) (p:=p) (s:=s) (by omega) hz
 exact Yd rfl (by simp[Yc,Yg,D.pure,Yt]) ho (Yy (foundD_pure _))
theorem town_d {n:Nat} {p:Plc} {s:ByteArray} (hn:p.aps.length<n) (hz:p.aps.length<=9223372036854775800):WO (Yb E (n+1) 168 [.agg p.enc,.str s] []) λd _=>d=Xy (p.aps.find? λa=>a.city.toList == s.toList):=by
 refine Ye Tryz.func168 rfl (by decide) rfl 22 rfl (λa hal ha=>?_)
 obtain⟨h0,h1⟩:=aQ2 ha
 clear ha
 simp only[Plc.enc]at h0
 simp only[push_cast,hal,h0,↓WX,simprocAttr]
 refine Yk (λi a T=>a.length=22/\a[1]?=some (.str s)/\a[4]?=some (.loc 1 0 0)/\a[9]?=some (.sl 5 (p.aps.map Apt.enc) p.apsx)/\a[10]?=some (.int .i64 p.aps.length)/\a[11]?=some (.int .i64 i)/\(∃r,T[1]?=some (.row 5 [r])/\r.length=5)/\(p.aps.find? λa=>a.city.toList == s.toList)=(p.aps.drop i).find? λa=>a.city.toList == s.toList) p.aps.length ?_ (by omega) ?_
 ·simp only[push_cast,hal,h1,simprocAttr,WY]
  exact⟨_,rfl,rfl⟩
 rintro i a T hi ⟨hal,h1,h4,h9,h10,h11,⟨r,hr,hrl⟩,hv⟩
 obtain⟨r0,r1,r2,r3,r4,rfl⟩:∃r0 r1 r2 r3 r4,r=[r0,r1,r2,r3,r4]:=by
  match r,hrl with
  | [r0,r1,r2,r3,r4],_=>exact⟨_,_,_,_,_,rfl⟩
 have hlT:1<T.length:=(Kr.1 hr).1
 rcases Kw hi with hlt |rfl
 ·obtain⟨c,hc⟩:∃c,p.aps[i]?=some c:=⟨p.aps[i],by simp[hlt]⟩
  rw[Yu hc,List.find?_cons]at hv
  have hr2:(T++[Ob.row 5 [c.enc]])[1]?=some (.row 5 [[r0,r1,r2,r3,r4]]):=Ym hr
  have hne:(T.length=1)=False:=eq_false (by omega)
  cases e:(c.city.toList == s.toList)
  ·rw[e]at hv
   simp(maxSteps:=1000000)(disch:=omega)only[push_cast,hal,h1,h4,h9,h10,h11,hlt,hc,Apt.enc,Yq,Yl,e,Yf,Int.natCast_add,Int.natCast_one,↓WX,simprocAttr]
   exact⟨⟨_,Ym hr,rfl⟩,hv⟩
  ·rw[e]at hv
   simp only[Apt.enc]at hr2
   simp(maxSteps:=1000000)(disch:=omega)only[push_cast,hal,h1,h4,h9,h10,h11,hlt,hc,Apt.enc,Yq,Yl,e,hr2,hv,Xy,Ku,Nat.lt_add_right,Tryz.f168,↓WX,simprocAttr]
 ·rw[Vj,List.find?_nil]at hv
  simp only[push_cast,hal,h4,h10,h11,Vl,hr,hlT,hv,Xy,hrl,Tryz.f168,↓WX,simprocAttr]
  rfl
theorem rtown_d {n:Nat} {p:Plc} {s:ByteArray} (hn:p.aps.length<n) (hz:p.aps.length<=9223372036854775800):WO (Yb E (n+1) 102 [.agg p.enc,.str s] []) λd _=>d=Xy (p.aps.find? λa=>a.city.toList == s.toList):=by
 refine Ye Tryz.func102 rfl (by decide) rfl 28 rfl (λa hal ha=>?_)
 obtain⟨h0,h1⟩:=aQ2 ha
 clear ha
 simp only[Plc.enc]at h0
 simp only[push_cast,h0,↓WX,simprocAttr]
 refine Yk (λi a T=>a.length=28/\a[1]?=some (.str s)/\a[2]?=some (.loc 0 0 0)/\a[4]?=some (.loc 1 0 0)/\a[6]?=some (.int .i64 i)/\(T[0]?=some (.row 2 [[.sl 5 (p.aps.map Apt.enc) p.apsx,.sl 3 (p.dts.map Dst.enc) p.dtsx]])/\T[1]?=some (.row 5 [[.str (ByteArray.mk #[]),.str (ByteArray.mk #[]),.str (ByteArray.mk #[]),.int .i64 0,.nils]]))/\(p.aps.find? λa=>a.city.toList == s.toList)=(p.aps.drop i).find? λa=>a.city.toList == s.toList) p.aps.length ?_ (by omega) ?_
 ·simp only[push_cast,hal,h1,simprocAttr,WY]
 rintro i a T hi ⟨hal,h1,h2,h4,h6,⟨hp,hr⟩,hv⟩
 have hlT:1<T.length:=(Kr.1 hr).1
 rcases Kw hi with hlt |rfl
 ·obtain⟨c,hc⟩:∃c,p.aps[i]?=some c:=⟨p.aps[i],by simp[hlt]⟩
  rw[Yu hc,List.find?_cons]at hv
  cases e:(c.city.toList == s.toList)
  ·rw[e]at hv
   simp(disch:=omega)only[push_cast,hal,h1,h2,h4,h6,hlt,hc,hp,Apt.enc,e,Yf,↓WX,simprocAttr,WY]
   exact⟨hr,hv⟩
  ·rw[e]at hv
   simp only[push_cast,hal,h1,h2,h4,h6,hlt,hc,hp,hr,Apt.enc,e,hv,Xy,hlT,Tryz.f102,↓WX,simprocAttr]
 ·rw[Vj,List.find?_nil]at hv
  simp only[push_cast,hal,h2,h4,h6,Vl,hp,hr,hv,Xy,hlT,Tryz.f102,↓WX,simprocAttr]
  rfl
theorem town_c {n:Nat} {p:Plc} {s:ByteArray} (hn:p.aps.length+1<n) (hz:p.aps.length<=9223372036854775800) (st:Bool) (S:List Ob):Yi E (Yb E n) st S 168 [.agg p.enc,.str s]=some (Xy (p.aps.find? λa=>a.city.toList == s.toList),S):=by
 obtain⟨m,rfl⟩:∃m,n=m+1:=⟨n-1,by omega⟩
 obtain⟨d,T,ho,rfl⟩:=town_d (n:=m) (p:=p) (s:=s) (by omega) hz
 exact Yd rfl (by simp[Yc,Yg,D.pure,Yt]) ho (Yy (foundD_pure _))
theorem rtown_c {n:Nat} {p:Plc} {s:ByteArray} (hn:p.aps.length+1<n) (hz:p.aps.length<=9223372036854775800) (st:Bool) (S:List Ob):Yi E (Yb E n) st S 102 [.agg p.enc,.str s]=some (Xy (p.aps.find? λa=>a.city.toList == s.toList),S):=by
 obtain⟨m,rfl⟩:∃m,n=m+1:=⟨n-1,by omega⟩
 obtain⟨d,T,ho,rfl⟩:=rtown_d (n:=m) (p:=p) (s:=s) (by omega) hz
 exact Yd rfl (by simp[Yc,Yg,D.pure,Yt]) ho (Yy (foundD_pure _))
theorem City_c {n:Nat} {p:Plc} {s:ByteArray} (hn:p.aps.length+2<n) (hz:p.aps.length<=9223372036854775800) (st:Bool) (S:List Ob):Yi E (Yb E n) st S 117 [.agg p.enc,.str s]=some (.str (Kb p s),S):=by
 obtain⟨m,rfl⟩:∃m,n=m+1:=⟨n-1,by omega⟩
 have c1:=PFind_c (n:=m) (p:=p) (s:=s) (by omega) hz
 have c2:=town_c (n:=m) (p:=p) (s:=s) (by omega) hz
 have:WO (Yb E (m+1) 117 [.agg p.enc,.str s] []) λd _=>d=.str (Kb p s):=by
  refine Ye Tryz.func117 rfl (by decide) rfl 26 rfl (λa hal ha=>?_)
  obtain⟨h0,h1⟩:=aQ2 ha
  clear ha
  unfold Kb
  simp only[Plc.enc]at h0 c1 c2
  rcases ha:(p.aps.find? λa=>a.code.toList == s.toList) with _ |a1
  ·rw[ha]at c1 ⊢
   simp only[Xy,zeroApt]at c1
   rcases hb:(p.aps.find? λa=>a.city.toList == s.toList) with _ |a2
   ·rw[hb]at c2 ⊢
    simp only[Xy,zeroApt]at c2
    simp only[push_cast,hal,h0,h1,c1,c2,Tryz.f117,↓WX,simprocAttr]
   ·rw[hb]at c2 ⊢
    simp only[Xy,Apt.enc]at c2
    simp only[push_cast,hal,h0,h1,c1,c2,Tryz.f117,↓WX,simprocAttr]
  ·rw[ha]at c1 ⊢
   simp only[Xy,Apt.enc]at c1
   simp only[push_cast,hal,h0,h1,c1,Tryz.f117,↓WX,simprocAttr]
 obtain⟨d,T,ho,rfl⟩:=this
 exact Yd rfl (by simp[Yc,Yg,D.pure,Yt]) ho rfl
theorem rCity_c {n:Nat} {p:Plc} {s:ByteArray} (hn:p.aps.length+2<n) (hz:p.aps.length<=9223372036854775800) (st:Bool) (S:List Ob):Yi E (Yb E n) st S 136 [.agg p.enc,.str s]=some (.str (Kb p s),S):=by
 obtain⟨m,rfl⟩:∃m,n=m+1:=⟨n-1,by omega⟩
 have c1:=PrFind_c (n:=m) (p:=p) (s:=s) (by omega) hz
 have c2:=rtown_c (n:=m) (p:=p) (s:=s) (by omega) hz
 have:WO (Yb E (m+1) 136 [.agg p.enc,.str s] []) λd _=>d=.str (Kb p s):=by
  refine Ye Tryz.func136 rfl (by decide) rfl 24 rfl (λa hal ha=>?_)
  obtain⟨h0,h1⟩:=aQ2 ha
  clear ha
  unfold Kb
  simp only[Plc.enc]at h0 c1 c2
  rcases ha:(p.aps.find? λa=>a.code.toList == s.toList) with _ |a1
  ·rw[ha]at c1 ⊢
   simp only[Xy,zeroApt]at c1
   rcases hb:(p.aps.find? λa=>a.city.toList == s.toList) with _ |a2
   ·rw[hb]at c2 ⊢
    simp only[Xy,zeroApt]at c2
    simp only[push_cast,hal,h0,h1,c1,c2,Tryz.f136,↓WX,simprocAttr]
   ·rw[hb]at c2 ⊢
    simp only[Xy,Apt.enc]at c2
    simp only[push_cast,hal,h0,h1,c1,c2,Tryz.f136,↓WX,simprocAttr]
  ·rw[ha]at c1 ⊢
   simp only[Xy,Apt.enc]at c1
   simp only[push_cast,hal,h0,h1,c1,Tryz.f136,↓WX,simprocAttr]
 obtain⟨d,T,ho,rfl⟩:=this
 exact Yd rfl (by simp[Yc,Yg,D.pure,Yt]) ho rfl
def encI (e:Int):List D:=[.int .i64 e]
theorem encI_pure (l:List Int):Zc (l.map encI)=true:=by
 induction l with
 |nil=>rfl
 |cons f fs ih=>rw[Uy,Zw,ih];rfl
theorem app_err {S:List Ob} {d:D} {l:List Int} (h:GL 1 encI S d l) (hl:l.length<=1000) (e:Int):
  ∃S',Zb Tryz.prog S 108 108 d (.sl 1 [[.int .i64 e]] true)=some (.os S.length 0 (l.length+1) false,S')/\GL 1 encI S' (.os S.length 0 (l.length+1) false) (l++[e])/\S'.length=S.length+1/\(∀k o,(∀n,d=.os k 0 n false->False)->S[k]?=some o->S'[k]?=some o)/\(∀(k sz:Nat) (es:List (List D)),sz≠1->S[k]?=some (.row sz es)->S'[k]?=some (.row sz es)):=
 app_gl (e:=42) (z:=.int .i64 0) (n:=0) (by kernel_rfl) (by kernel_rfl) (by kernel_rfl) rfl (Nat.le_of_ble_eq_true (by kernel_rfl)) h (by omega) e
def offB (x:Int):Bool:=decide (-840<=x) && decide (x<=840)
theorem roff_c {n:Nat} (hn:1<=n) (x:Int) (st:Bool) (S:List Ob):Yi E (Yb E n) st S 150 [.int .i64 x]=some (.bool (offB x),S):=by
 obtain⟨m,rfl⟩:∃m,n=m+1:=⟨n-1,by omega⟩
 have:WO (Yb E (m+1) 150 [.int .i64 x] []) λd T=>d=.bool (offB x)/\T=[]:=by
  refine Ye Tryz.func150 rfl (by decide) rfl 9 rfl (λa hal ha=>?_)
  have h0:=aQ1 ha
  clear ha
  unfold offB
  by_cases h: -840<=x <;>
  ·simp only[push_cast,hal,h0,h,Tryz.f150,↓WX,simprocAttr,WY]
 exact Yd rfl rfl (Ke this) rfl
def ShOk (l:List Shf):Prop:=l.Pairwise λa b=>a.tm<b.tm
def ShI (l:List Shf) (i:Nat):Prop:=ShOk (l.take i)/\∀s∈l.take i,(0<=s.tm/\s.tm<52596000)/\∀q,l[i-1]?=some q->s.tm<=q.tm
theorem ShI.step {l:List Shf} {i:Nat} {c:Shf} (h:ShI l i) (hc:l[i]?=some c) (h0:0<=c.tm) (h1:c.tm<52596000) (h2:i=0∨∃q,l[i-1]?=some q/\q.tm<c.tm):ShI l (i+1):=by
 have ht:l.take (i+1)=l.take i++[c]:=by rw[List.take_add_one,hc];rfl
 have hlt:∀s∈l.take i,s.tm<c.tm:=λs hs=>by
  rcases h2 with rfl | ⟨q,hq,hqc⟩
  ·simp at hs
  ·have:=(h.2 s hs).2 q hq
   omega
 refine⟨?_,λs hs=>?_⟩
 ·unfold ShOk
  rw[ht,List.pairwise_append]
  exact⟨h.1,List.pairwise_singleton ..,λa ha b hb=>by rw[List.mem_singleton.1 hb];exact hlt a ha⟩
 ·rw[ht]at hs
  rcases List.mem_append.1 hs with hs |hs
  ·refine⟨(h.2 s hs).1,λq hq=>?_⟩
   rw[Nat.add_sub_cancel,hc]at hq
   have:=hlt s hs
   rw[<-Kz hq]
   omega
  ·rw[List.mem_singleton.1 hs]
   refine⟨⟨h0,h1⟩,λq hq=>?_⟩
   rw[Nat.add_sub_cancel,hc]at hq
   rw[<-Kz hq]
   exact Int.le_refl _
theorem ShI.bnd {l:List Shf} {i:Nat} {q:Shf} (h:ShI l (i+1)) (hq:l[i]?=some q):0<=q.tm/\q.tm<52596000:=by
 refine (h.2 q ?_).1
 rw[List.take_add_one,hq]
 exact List.mem_append_right _ (List.mem_singleton.2 rfl)
theorem rZone_c {n:Nat} (hn:270<=n) (off:Int) (sh:List Shf) (x:Bool):∃e:Int,(e=0->ShOk sh)/\∀st S,Yi E (Yb E n) st S 100 [.agg [.int .i64 off,.sl 2 (sh.map Shf.enc) x]]=some (.int .i64 e,S):=by
 obtain⟨m,rfl⟩:∃m,n=m+1:=⟨n-1,by omega⟩
 have ro:=roff_c (n:=m) (by omega)
 obtain⟨ZP,hZP⟩:∃ZP:Int->Prop,∀e,ZP e↔(e=0->ShOk sh):=⟨_,λ_=>Iff.rfl⟩
 have hz4:∀e:Int,e≠0->ZP e:=λe he=>(hZP e).2 λh=>absurd h he
 have:WO (Yb E (m+1) 100 [.agg [.int .i64 off,.sl 2 (sh.map Shf.enc) x]] []) λd _=>∃e:Int,d=.int .i64 e/\ZP e:=by
  refine Ye Tryz.func100 rfl (by decide) rfl 54 rfl (λa hal ha=>?_)
  have h0:=aQ1 ha
  clear ha
  by_cases g:(256:Int)<sh.length
  ·simp only[push_cast,Vn,hal,h0,g,Tryz.f100,↓WX,simprocAttr]
   exact⟨_,rfl,hz4 _ (by decide)⟩
  cases g1:offB off
  ·simp only[push_cast,Vn,hal,h0,g,g1,ro,Tryz.f100,↓WX,simprocAttr]
   exact⟨_,rfl,hz4 _ (by decide)⟩
  simp only[push_cast,Vn,hal,h0,g,g1,ro,↓WX,simprocAttr]
  refine Yk (λi a T=>a.length=54/\a[1]?=some (.loc 0 0 0)/\a[3]?=some (.int .i64 i)/\T[0]?=some (.row 2 [[.int .i64 off,.sl 2 (sh.map Shf.enc) x]])/\ShI sh i) sh.length ?_ (by omega) ?_
  ·simp only[push_cast,hal,simprocAttr,WY]
   exact⟨List.Pairwise.nil,λs hs=>by simp at hs⟩
  rintro i a T hi ⟨hal,h1,h3,ht,hsi⟩
  rcases Kw hi with hlt |rfl
  case inr=>
   simp only[push_cast,hal,h1,h3,Vl,ht,Tryz.f100,↓WX,simprocAttr]
   exact⟨_,rfl,(hZP 0).2 λ_=>by have:=hsi.1;rw[Vi]at this;exact this⟩
  obtain⟨c,hc⟩:∃c,sh[i]?=some c:=⟨sh[i],by simp[hlt]⟩
  have htl:0<T.length:=(Kr.1 ht).1
  have ht':∀o,(T++[o])[0]?=some (.row 2 [[.int .i64 off,.sl 2 (sh.map Shf.enc) x]]):=λo=>Ym ht
  have hne:(T.length=0)=False:=eq_false (by omega)
  by_cases e1:c.tm<0
  ·simp only[push_cast,hal,h1,h3,hlt,hc,ht,e1,Yq,Yl,Shf.enc,Tryz.f100,↓WX,simprocAttr]
   exact⟨_,rfl,hz4 _ (by decide)⟩
  by_cases e2:52596000<=c.tm
  ·simp only[push_cast,hal,h1,h3,hlt,hc,ht,e1,e2,Yq,Yl,Shf.enc,Tryz.f100,↓WX,simprocAttr]
   exact⟨_,rfl,hz4 _ (by decide)⟩
  rcases Nat.eq_zero_or_pos i with rfl |hp
  ·have hlt0:(0:Int)<(sh.length:Int):=by omega
   cases g2:offB c.off
   ·simp only[push_cast,Vn,hal,h1,h3,hlt0,Int.toNat_zero,hc,ht,e1,e2,g2,ro,Yq,Yl,Shf.enc,Tryz.f100,↓WX,simprocAttr,WY]
    exact⟨_,rfl,hz4 _ (by decide)⟩
   ·simp only[push_cast,Vn,hal,h1,h3,hlt0,Int.toNat_zero,hc,ht,ht',e1,e2,g2,ro,Yq,Yl,Shf.enc,Yf,↓WX,simprocAttr,WY]
    exact⟨hlt,hsi.step hc (by omega) (by omega) (.inl rfl)⟩
  ·obtain⟨j,hji⟩:∃j,i=j+1:=⟨i-1,by omega⟩
   obtain⟨q,hq⟩:∃q,sh[j]?=some q:=⟨sh[j]'(by omega),by simp⟩
   have hp':(0:Int)<(i:Int):=by omega
   have hj:IntKind.i64.wrap ((i:Int)-1)=j:=by rw[Yf (by omega) (by omega)];omega
   have hjl:j<sh.length:=by omega
   by_cases e3:IntKind.i64.wrap (c.tm-q.tm)<2880
   ·simp only[push_cast,Vn,hal,h1,h3,hlt,hc,ht,ht',hq,e1,e2,e3,hp',hj,Yq,Yl,Shf.enc,Tryz.f100,↓WX,simprocAttr]
    exact⟨_,rfl,hz4 _ (by decide)⟩
   cases g2:offB c.off
   ·simp only[push_cast,Vn,hal,h1,h3,hlt,hc,ht,ht',hq,e1,e2,e3,g2,ro,hp',hj,Yq,Yl,Shf.enc,Tryz.f100,↓WX,simprocAttr]
    exact⟨_,rfl,hz4 _ (by decide)⟩
   ·have hw:IntKind.i64.wrap ((i:Int)+1)=(i:Int)+1:=Yf (by omega) (by omega)
    simp(disch:=omega)only[push_cast,Vn,hal,h1,h3,hlt,hc,ht,ht',hq,e1,e2,e3,g2,ro,hp',hj,hw,Yq,Yl,Shf.enc,↓WX,simprocAttr,WY]
    have hqb:0<=q.tm/\q.tm<52596000:=by
     rw[hji]at hsi
     exact hsi.bnd hq
    refine hsi.step hc (by omega) (by omega) (.inr ⟨q,by rw[hji,Nat.add_sub_cancel];exact hq,?_⟩)
    rw[Yf (by omega) (by omega)]at e3
    omega
 obtain⟨d,T,ho,e,rfl,he⟩:=this
 exact⟨e,(hZP e).1 he,λst S=>Yd rfl (by simp[Yc,Yg,D.pure,Shfs_pure]) ho rfl⟩
def AptR (n:Nat) (c:Apt):Prop:=(c.code.size+10<n/\c.city.size+10<n/\c.ctry.size+10<n)/\c.code.size<=9223372036854775807/\c.city.size<=9223372036854775807/\c.ctry.size<=9223372036854775807
theorem airport_d {n:Nat} {p:Plc} {i:Nat} (hn:300<=n) (hl:p.aps.length<=100) (hi:i<p.aps.length) (hz:∀c∈p.aps,AptR n c):
  WO (Yb E (n+1) 41 [.agg p.enc,.int .i64 i] []) λd T=>∃es,GL 1 encI T d es/\es.length<=4/\(es=[]->∀c,p.aps[i]?=some c->ShOk c.sh):=by
 obtain⟨c,hc⟩:∃c,p.aps[i]?=some c:=⟨p.aps[i],by simp[hi]⟩
 obtain⟨⟨z1,z2,z3⟩,y1,y2,y3⟩:=hz c (Kx hc)
 have tA:=rAirport_c (n:=n) (s:=c.code) (by omega) y1
 have tB:=rAirport_c (n:=n) (s:=c.city) (by omega) y2
 have tC:=rCountry_c (n:=n) (s:=c.ctry) (by omega) y3
 generalize hA:(∀c,p.aps[i]?=some c->ShOk c.sh)=A
 obtain⟨ez,hez,tZ⟩:=rZone_c (n:=n) (by omega) c.off c.sh c.shx
 have hpe:p.enc=[.sl 5 (p.aps.map Apt.enc) p.apsx,.sl 3 (p.dts.map Dst.enc) p.dtsx]:=rfl
 have hce:c.enc=[.str c.code,.str c.city,.str c.ctry,.int .i64 c.off,.sl 2 (c.sh.map Shf.enc) c.shx]:=rfl
 refine Ye Tryz.func41 rfl (by decide) rfl 93 rfl (λa hal ha=>?_)
 obtain⟨h0,h1⟩:=aQ2 ha
 clear ha
 rw[hpe]at h0
 rw[wc_asc,wc_asc]
 refine Ya (λa T=>∃(d:D) (es:List Int),a.length=93/\a[1]?=some (.int .i64 i)/\a[2]?=some (.loc 0 0 0)/\a[5]?=some (d)/\a[6]?=some (.loc 1 0 0)/\GL 1 encI T d es/\es.length<=0/\T[0]?=some (.row 2 [p.enc])/\T[1]?=some (.row 5 [c.enc])) ?_ ?_
 ·simp only[push_cast,hal,h0,h1,hpe,hc,hce,↓WX,simprocAttr]
  exact⟨_,[],rfl,.nil,Uk _⟩
 rintro a T ⟨d,es,hal,h1,h2,h5,h6,hg,hes,hT0,hT1⟩
 refine Ya (λa T=>∃(d:D) (es:List Int),a.length=93/\a[1]?=some (.int .i64 i)/\a[2]?=some (.loc 0 0 0)/\a[5]?=some (d)/\a[6]?=some (.loc 1 0 0)/\GL 1 encI T d es/\es.length<=1/\T[0]?=some (.row 2 [p.enc])/\T[1]?=some (.row 5 [c.enc])) ?_ ?_
 ·obtain⟨W,hW,hgW,-,-,hkW⟩:=app_err hg (by omega) 5
  have hW0:=hkW _ _ _ (by decide) hT0
  have hW1:=hkW _ _ _ (by decide) hT1
  have hT1':=hT1
  rw[hce]at hT1'
  cases e1:lettS c.code 3
  ·simp only[push_cast,hal,h1,h2,h5,h6,hT1',tA,e1,hW,↓WX,simprocAttr]
   exact⟨_,es++[5],rfl,hgW,by rw[Ku];exact Vu hes,hW0,hW1⟩
  cases e2:lettS c.city 3
  ·simp only[push_cast,hal,h1,h2,h5,h6,hT1',tA,tB,e1,e2,hW,↓WX,simprocAttr]
   exact⟨_,es++[5],rfl,hgW,by rw[Ku];exact Vu hes,hW0,hW1⟩
  cases e3:lettS c.ctry 2
  ·simp only[push_cast,hal,h1,h2,h5,h6,hT1',tA,tB,tC,e1,e2,e3,hW,↓WX,simprocAttr]
   exact⟨_,es++[5],rfl,hgW,by rw[Ku];exact Vu hes,hW0,hW1⟩
  ·simp only[push_cast,hal,h1,h2,h5,h6,hT1',tA,tB,tC,e1,e2,e3,↓WX,simprocAttr]
   exact⟨d,_,rfl,hg,by omega,hT0,rfl⟩
 rintro a T ⟨d,es,hal,h1,h2,h5,h6,hg,hes,hT0,hT1⟩
 have hT0':=hT0
 have hT1':=hT1
 rw[hpe]at hT0'
 rw[hce]at hT1'
 refine Ya (λa T'=>T'=T/\gQ a 93 (a[8]?=some (.bool false)) [(1,.int .i64 i),(2,.loc 0 0 0),(5,d),(6,.loc 1 0 0),(7,.bool false)]) ?_ ?_
 ·simp only[push_cast,hal,h1,h2,h5,h6,↓WX,simprocAttr]
 rintro a T' ⟨rfl,hal,h1,h2,h5,h6,h7,h8⟩
 refine Ya (λa T=>T=T'/\∃b7 b8:Bool,gQ a 93 (a[8]?=some (.bool b8)) [(1,.int .i64 i),(2,.loc 0 0 0),(5,d),(6,.loc 1 0 0),(7,.bool b7)]) ?_ ?_
 ·simp only[push_cast,↓WX,simprocAttr]
  refine Yk (λk a T=>T=T'/\∃b7 b8:Bool,a.length=93/\a[1]?=some (.int .i64 i)/\a[2]?=some (.loc 0 0 0)/\a[5]?=some (d)/\a[6]?=some (.loc 1 0 0)/\a[7]?=some (.bool b7)/\a[8]?=some (.bool b8)/\a[9]?=some (.int .i64 k)) i ?_ (by omega) ?_
  ·simp only[push_cast,hal,h1,h2,h5,h6,h7,h8,simprocAttr,WY]
   exact⟨_,_,rfl,rfl⟩
  rintro k a T hk ⟨rfl,b7,b8,hal,h1,h2,h5,h6,h7,h8,h9⟩
  rcases Kw hk with hkl |rfl
  case inr=>
   simp only[push_cast,hal,h1,h2,h5,h6,h7,h8,h9,↓WX,simprocAttr,WY]
   exact⟨_,_,rfl,rfl⟩
  obtain⟨q,hq⟩:∃q,p.aps[k]?=some q:=⟨p.aps[k]'(by omega),by simp⟩
  have hkn:k<p.aps.length:=Nat.lt_trans hkl hi
  cases e1:(q.code.toList == c.code.toList) <;> cases e2:(q.city.toList == c.city.toList) <;> cases e3:(q.ctry.toList == c.ctry.toList) <;> cases b7 <;> cases b8 <;>
  ·simp(disch:=omega)only[push_cast,hal,h1,h2,h5,h6,h7,h8,h9,hkl,hq,hT0',hT1',e1,e2,e3,Apt.enc,Yf,↓WX,simprocAttr,WY]
   exact⟨_,_,rfl,rfl⟩
 rintro a T ⟨rfl,b7,b8,hal,h1,h2,h5,h6,h7,h8⟩
 refine Ya (λa T=>∃(d:D) (es:List Int),a.length=93/\a[1]?=some (.int .i64 i)/\a[2]?=some (.loc 0 0 0)/\a[5]?=some (d)/\a[6]?=some (.loc 1 0 0)/\a[8]?=some (.bool b8)/\GL 1 encI T d es/\es.length<=2/\T[0]?=some (.row 2 [p.enc])/\T[1]?=some (.row 5 [c.enc])) ?_ ?_
 ·cases b7
  ·simp only[push_cast,hal,h1,h2,h5,h6,h7,h8,↓WX,simprocAttr]
   exact⟨d,_,rfl,hg,by omega,hT0,hT1⟩
  ·obtain⟨W,hW,hgW,-,-,hkW⟩:=app_err hg (by omega) 6
   have hW0:=hkW _ _ _ (by decide) hT0
   have hW1:=hkW _ _ _ (by decide) hT1
   simp only[push_cast,hal,h1,h2,h5,h6,h7,h8,hW,↓WX,simprocAttr]
   exact⟨_,es++[6],rfl,hgW,by rw[Ku];exact Vu hes,hW0,hW1⟩
 rintro a T ⟨d,es,hal,h1,h2,h5,h6,h8,hg,hes,hT0,hT1⟩
 refine Ya (λa T=>∃(d:D) (es:List Int),a.length=93/\a[1]?=some (.int .i64 i)/\a[2]?=some (.loc 0 0 0)/\a[5]?=some (d)/\a[6]?=some (.loc 1 0 0)/\GL 1 encI T d es/\es.length<=3/\T[0]?=some (.row 2 [p.enc])/\T[1]?=some (.row 5 [c.enc])) ?_ ?_
 ·cases b8
  ·simp only[push_cast,hal,h1,h2,h5,h6,h8,↓WX,simprocAttr]
   exact⟨d,_,rfl,hg,by omega,hT0,hT1⟩
  ·obtain⟨W,hW,hgW,-,-,hkW⟩:=app_err hg (by omega) 8
   have hW0:=hkW _ _ _ (by decide) hT0
   have hW1:=hkW _ _ _ (by decide) hT1
   simp only[push_cast,hal,h1,h2,h5,h6,h8,hW,↓WX,simprocAttr]
   exact⟨_,es++[8],rfl,hgW,by rw[Ku];exact Vu hes,hW0,hW1⟩
 rintro a T ⟨d,es,hal,h1,h2,h5,h6,hg,hes,hT0,hT1⟩
 rw[hce]at hT1
 by_cases e:ez=0
 ·subst e
  simp only[push_cast,Vp,hal,h5,h6,hT1,tZ,Tryz.f41,↓WX,simprocAttr]
  exact⟨_,hg,by omega,λ_=>hA ▸ λc' hc'=>by rw[hc]at hc';rw[<-Kz hc'];exact hez rfl⟩
 ·obtain⟨W,hW,hgW,-,-,-⟩:=app_err hg (by omega) ez
  simp only[push_cast,Vo,hal,h5,h6,hT1,tZ,e,hW,Tryz.f41,↓WX,simprocAttr]
  exact⟨es++[ez],hgW,by rw[Ku];exact Vu hes,λe=>by simp at e⟩
theorem town_at {n:Nat} {p:Plc} {s:ByteArray} (hn:p.aps.length+1<n) (hz:p.aps.length<=9223372036854775800):∃(r0 r1 r2 r3 r4:D) (b:Bool),∀st S,Yi E (Yb E n) st S 102 [.agg p.enc,.str s]=some (.tup [.agg [r0,r1,r2,r3,r4],.bool b],S)/\[r0,r1,r2,r3,r4].all D.one=true:=by
 have h:=rtown_c (n:=n) (p:=p) (s:=s) hn hz
 cases hf:(p.aps.find? λa=>a.city.toList == s.toList) with
 |none=>
  rw[hf]at h
  exact⟨_,_,_,_,_,_,λst S=>⟨h st S,rfl⟩⟩
 |some a=>
  rw[hf]at h
  exact⟨_,_,_,_,_,_,λst S=>⟨h st S,rfl⟩⟩
theorem Pusable_c {n:Nat} (hn:1<=n) (c:Dst) (st:Bool) (S:List Ob):Yi E (Yb E n) st S 103 [.agg c.enc]=some (.bool (decide (1<=c.mi) && decide (c.mi<=20000)),S):=by
 obtain⟨m,rfl⟩:∃m,n=m+1:=⟨n-1,by omega⟩
 have:WO (Yb E (m+1) 103 [.agg c.enc] []) λd T=>d=.bool (decide (1<=c.mi) && decide (c.mi<=20000)):=by
  refine Ye Tryz.func103 rfl (by decide) rfl 11 rfl (λa hal ha=>?_)
  have h0:=aQ1 ha
  clear ha
  simp only[Dst.enc]at h0
  by_cases h:1<=c.mi
  ·simp only[push_cast,hal,h0,h,Tryz.f103,↓WX,simprocAttr,WY]
  ·simp only[push_cast,hal,h0,h,Tryz.f103,↓WX,simprocAttr,WY]
 obtain⟨d,T,ho,rfl⟩:=this
 exact Yd rfl (by simp[Yc,Yg,D.pure,Dst_pure]) ho rfl
theorem distance_d {n:Nat} {p:Plc} {i:Nat} (hn:300<=n) (hl:p.aps.length<=100) (hld:p.dts.length<=100) (hi:i<p.dts.length):
  WO (Yb E (n+1) 43 [.agg p.enc,.int .i64 i] []) λd T=>∃es,GL 1 encI T d es/\es.length<=4:=by
 obtain⟨c,hc⟩:∃c,p.dts[i]?=some c:=⟨p.dts[i],by simp[hi]⟩
 obtain⟨u0,u1,u2,u3,u4,ub,tU⟩:=town_at (n:=n) (p:=p) (s:=c.fr) (by omega) (by omega)
 obtain⟨v0,v1,v2,v3,v4,vb,tV⟩:=town_at (n:=n) (p:=p) (s:=c.to) (by omega) (by omega)
 have tU1:=λst S=>(tU st S).1
 have tV1:=λst S=>(tV st S).1
 have oU:=(tU false []).2
 have oV:=(tV false []).2
 have hus:=Pusable_c (n:=n) (by omega) c
 generalize (decide (1<=c.mi) && decide (c.mi<=20000))=us at hus
 have hpe:p.enc=[.sl 5 (p.aps.map Apt.enc) p.apsx,.sl 3 (p.dts.map Dst.enc) p.dtsx]:=rfl
 have hce:c.enc=[.str c.fr,.str c.to,.int .i64 c.mi]:=rfl
 rw[hpe]at tU1 tV1
 rw[hce]at hus
 simp only[List.all_cons,List.all_nil,Ua,Kv,D.one]at oU oV
 refine Ye Tryz.func43 rfl (by decide) rfl 99 rfl (λa hal ha=>?_)
 obtain⟨h0,h1⟩:=aQ2 ha
 clear ha
 rw[hpe]at h0
 rw[wc_asc,wc_asc,wc_asc,wc_asc]
 refine Ya (λa T=>∃(d:D) (es:List Int),a.length=99/\a[1]?=some (.int .i64 i)/\a[2]?=some (.loc 0 0 0)/\a[5]?=some (d)/\a[6]?=some (.loc 1 0 0)/\GL 1 encI T d es/\es.length<=0/\T[0]?=some (.row 2 [p.enc])/\T[1]?=some (.row 3 [c.enc])/\a[8]?=some (.bool ub)/\a[10]?=some (.bool vb)) ?_ ?_
 ·simp only[push_cast,hal,h0,h1,hpe,hc,hce,tU1,tV1,oU,oV,↓WX,simprocAttr]
  exact⟨_,[],rfl,.nil,Uk _⟩
 clear tU tV tU1 tV1 oU oV
 rintro a T ⟨d,es,hal,h1,h2,h5,h6,hg,hes,hT0,hT1,h8,h10⟩
 refine Ya (λa T=>∃(d:D) (es:List Int),a.length=99/\a[1]?=some (.int .i64 i)/\a[2]?=some (.loc 0 0 0)/\a[5]?=some (d)/\a[6]?=some (.loc 1 0 0)/\GL 1 encI T d es/\es.length<=1/\T[0]?=some (.row 2 [p.enc])/\T[1]?=some (.row 3 [c.enc])) ?_ ?_
 ·obtain⟨W,hW,hgW,-,-,hkW⟩:=app_err hg (by omega) 14
  have hW0:=hkW _ _ _ (by decide) hT0
  have hW1:=hkW _ _ _ (by decide) hT1
  cases ub
  ·simp only[push_cast,hal,h1,h2,h5,h6,h8,hW,↓WX,simprocAttr]
   exact⟨_,es++[14],rfl,hgW,by rw[Ku];exact Vu hes,hW0,hW1⟩
  cases vb
  ·simp only[push_cast,hal,h1,h2,h5,h6,h8,h10,hW,↓WX,simprocAttr]
   exact⟨_,es++[14],rfl,hgW,by rw[Ku];exact Vu hes,hW0,hW1⟩
  ·simp only[push_cast,hal,h1,h2,h5,h6,h8,h10,↓WX,simprocAttr]
   exact⟨d,_,rfl,hg,by omega,hT0,hT1⟩
 rintro a T ⟨d,es,hal,h1,h2,h5,h6,hg,hes,hT0,hT1⟩
 have hT0':=hT0
 have hT1':=hT1
 rw[hpe]at hT0'
 rw[hce]at hT1'
 have hl1:1<T.length:=(Kr.1 hT1).1
 refine Ya (λa T'=>T'=T/\gQ a 99 (a[11]?=some (.bool false)) [(1,.int .i64 i),(2,.loc 0 0 0),(5,d),(6,.loc 1 0 0)]) ?_ ?_
 ·simp only[push_cast,hal,h1,h2,h5,h6,↓WX,simprocAttr]
 rintro a T' ⟨rfl,hal,h1,h2,h5,h6,h11⟩
 refine Ya (λa T=>ExtS T' T/\∃b:Bool,gQ a 99 (a[11]?=some (.bool b)) [(1,.int .i64 i),(2,.loc 0 0 0),(5,d),(6,.loc 1 0 0)]) ?_ ?_
 ·simp only[push_cast,↓WX,simprocAttr]
  refine Yk (λk a T=>ExtS T' T/\∃b:Bool,a.length=99/\a[1]?=some (.int .i64 i)/\a[2]?=some (.loc 0 0 0)/\a[5]?=some (d)/\a[6]?=some (.loc 1 0 0)/\a[11]?=some (.bool b)/\a[12]?=some (.int .i64 k)) i ?_ (by omega) ?_
  ·simp only[push_cast,hal,h1,h2,h5,h6,h11,simprocAttr,WY]
   exact⟨ExtS.refl,_,rfl⟩
  rintro k a T hk ⟨hx,b,hal,h1,h2,h5,h6,h11,h12⟩
  rcases Kw hk with hkl |rfl
  case inr=>
   simp only[push_cast,hal,h1,h2,h5,h6,h11,h12,↓WX,simprocAttr,WY]
   exact⟨hx,_,rfl⟩
  obtain⟨q,hq⟩:∃q,p.dts[k]?=some q:=⟨p.dts[k]'(by omega),by simp⟩
  have hkn:k<p.dts.length:=Nat.lt_trans hkl hi
  have k0:=hx _ _ hT0'
  have k1:=hx _ _ hT1'
  have hx':∀o,ExtS T' (T++[o]):=λo=>hx.push o
  have k0':∀o,(T++[o])[0]?=_:=λo=>Ym k0
  have k1':∀o,(T++[o])[1]?=_:=λo=>Ym k1
  have hqe:q.enc=[.str q.fr,.str q.to,.int .i64 q.mi]:=rfl
  cases b
  case true=>
   simp(disch:=omega)only[push_cast,hal,h1,h2,h5,h6,h11,h12,hkl,hq,k0,hqe,Yq,Yl,Yf,↓WX,simprocAttr,WY]
   exact⟨hx' _,_,rfl⟩
  cases e1:(q.fr.toList == c.fr.toList) <;> cases e2:(q.to.toList == c.to.toList) <;> cases e3:(q.fr.toList == c.to.toList) <;> cases e4:(q.to.toList == c.fr.toList) <;>
  ·simp(disch:=omega)only[push_cast,hal,h1,h2,h5,h6,h11,h12,hkl,hq,k0,k1',hqe,Yq,Yl,e1,e2,e3,e4,Yf,↓WX,simprocAttr,WY]
   exact⟨hx' _,_,rfl⟩
 rintro a T ⟨hx,b,hal,h1,h2,h5,h6,h11⟩
 have hT0:=hx _ _ hT0
 have hT1:=hx _ _ hT1
 have hg:=hg.ext hx
 clear hx hT0' hT1' hl1
 refine Ya (λa T=>∃(d:D) (es:List Int),a.length=99/\a[1]?=some (.int .i64 i)/\a[2]?=some (.loc 0 0 0)/\a[5]?=some (d)/\a[6]?=some (.loc 1 0 0)/\GL 1 encI T d es/\es.length<=2/\T[0]?=some (.row 2 [p.enc])/\T[1]?=some (.row 3 [c.enc])) ?_ ?_
 ·cases b
  ·simp only[push_cast,hal,h1,h2,h5,h6,h11,↓WX,simprocAttr]
   exact⟨d,_,rfl,hg,by omega,hT0,hT1⟩
  ·obtain⟨W,hW,hgW,-,-,hkW⟩:=app_err hg (by omega) 6
   have hW0:=hkW _ _ _ (by decide) hT0
   have hW1:=hkW _ _ _ (by decide) hT1
   simp only[push_cast,hal,h1,h2,h5,h6,h11,hW,↓WX,simprocAttr]
   exact⟨_,es++[6],rfl,hgW,by rw[Ku];exact Vu hes,hW0,hW1⟩
 rintro a T ⟨d,es,hal,h1,h2,h5,h6,hg,hes,hT0,hT1⟩
 obtain⟨W,hW,hgW,-,-,hkW⟩:=app_err hg (by omega) 2
 have hW0:=hkW _ _ _ (by decide) hT0
 have hW1:=hkW _ _ _ (by decide) hT1
 rw[hce]at hT1
 cases us
 ·simp only[push_cast,hal,h5,h6,hT1,hus,hW,Tryz.f43,↓WX,simprocAttr]
  exact⟨es++[2],hgW,by rw[Ku];exact Vu (by omega)⟩
 cases e1:(c.fr.toList == c.to.toList)
 ·simp only[push_cast,hal,h5,h6,hT1,hus,e1,Tryz.f43,↓WX,simprocAttr]
  exact⟨_,hg,by omega⟩
 ·simp only[push_cast,hal,h5,h6,hT1,hus,e1,hW,Tryz.f43,↓WX,simprocAttr]
  exact⟨es++[2],hgW,by rw[Ku];exact Vu (by omega)⟩
theorem airport_c {n:Nat} {p:Plc} {i:Nat} (hn:301<=n) (hl:p.aps.length<=100) (hi:i<p.aps.length) (hz:∀c∈p.aps,AptR (n-1) c):∃d es,FLs 1 encI d es/\es.length<=4/\(es=[]->∀c,p.aps[i]?=some c->ShOk c.sh)/\∀st S,Yi E (Yb E n) st S 41 [.agg p.enc,.int .i64 i]=some (d,S):=by
 obtain⟨m,rfl⟩:∃m,n=m+1:=⟨n-1,by omega⟩
 obtain⟨d,T,ho,es,hg,hl,hp⟩:=airport_d (n:=m) (by omega) hl hi hz
 obtain⟨d',hf,hz⟩:=hg.fls (encI_pure es)
 exact⟨d',es,hz,hl,hp,λst S=>Yd rfl (by simp[Yc,Yg,D.pure,Yt]) ho hf⟩
theorem distance_c {n:Nat} {p:Plc} {i:Nat} (hn:301<=n) (hl:p.aps.length<=100) (hld:p.dts.length<=100) (hi:i<p.dts.length):∃d es,FLs 1 encI d es/\es.length<=4/\∀st S,Yi E (Yb E n) st S 43 [.agg p.enc,.int .i64 i]=some (d,S):=by
 obtain⟨m,rfl⟩:∃m,n=m+1:=⟨n-1,by omega⟩
 obtain⟨d,T,ho,es,hg,hl⟩:=distance_d (n:=m) (by omega) hl hld hi
 obtain⟨d',hf,hz⟩:=hg.fls (encI_pure es)
 exact⟨d',es,hz,hl,λst S=>Yd rfl (by simp[Yc,Yg,D.pure,Yt]) ho hf⟩
def NZ (d:D):Prop:=∀n,d=.os 0 0 n false->False
abbrev NZP (P:Prop) (fs:List (Int×ByteArray)) (d:D):Prop:=NZ d/\(fs=[]->P)
theorem max_txt {s:ByteArray} (h:s.size<=100) (i:Nat):¬IntKind.i64.max<(s.size:Int)+((dec2 i).size:Int):=by
 have:=dec2_size i
 show ¬(9223372036854775807:Int)<_
 omega
theorem PCheck_d {n:Nat} {p:Plc} (hn:1000<=n) (hl:p.aps.length<=40) (hld:p.dts.length<=40) (hz:∀c∈p.aps,AptR (n-1) c):
  WO (Yb E (n+1) 20 [.agg p.enc] []) λd T=>∃fs,GV T d fs/\fs.length<=320/\(fs=[]->∀a∈p.aps,ShOk a.sh):=by
 obtain⟨P,hP0,hPs,hPl⟩:=takeP p.aps λa=>ShOk a.sh
 obtain⟨K,hK⟩:∃K:Nat->Prop,∀i,K i↔i=0:=⟨λi=>i=0,λ_=>Iff.rfl⟩
 generalize hQ:(∀a∈p.aps,ShOk a.sh)=Q at*
 have hpe:p.enc=[.sl 5 (p.aps.map Apt.enc) p.apsx,.sl 3 (p.dts.map Dst.enc) p.dtsx]:=rfl
 have lens:(p.aps.map Apt.enc).length=p.aps.length:=by simp
 have lend:(p.dts.map Dst.enc).length=p.dts.length:=by simp
 refine Ye Tryz.func20 rfl (by decide) rfl 65 rfl (λa hal ha=>?_)
 have h0:=aQ1 ha
 clear ha
 rw[wc_asc]
 refine Ya (λa T=>a.length=65/\a[1]?=some (.loc 0 0 0)/\a[3]?=some (.nils)/\T=[.row 2 [p.enc]]) ?_ ?_
 ·rw[hpe]at h0 ⊢
  simp only[push_cast,hal,h0,↓WX,simprocAttr]
 rintro a T ⟨hal,h1,h3,rfl⟩
 refine Ya (λa T=>∃(d:D) (fs:List (Int×ByteArray)),a.length=65/\a[1]?=some (.loc 0 0 0)/\a[3]?=some (d)/\GV T d fs/\fs.length<=4*p.aps.length/\T[0]?=some (.row 2 [p.enc])/\NZP Q fs d) ?_ ?_
 ·simp only[push_cast,↓WX,simprocAttr]
  refine Yk (λi a T=>∃(d:D) (fs:List (Int×ByteArray)),a.length=65/\a[1]?=some (.loc 0 0 0)/\a[3]?=some (d)/\a[4]?=some (.int .i64 i)/\GV T d fs/\fs.length<=4*i/\T[0]?=some (.row 2 [p.enc])/\NZP (P i) fs d) p.aps.length ?_ (by omega) ?_
  ·simp only[push_cast,hal,h1,h3,simprocAttr,WY]
   exact⟨_,[],rfl,.inl ⟨rfl,rfl⟩,by simp,λn h=>(by cases h),λ_=>hP0⟩
  rintro i a T hi ⟨d,fs,hal,h1,h3,h4,hg,hfs,hT0,hnz⟩
  have hT0':=hT0
  rw[hpe]at hT0'
  rcases Kw hi with hlt |rfl
  case inr=>
   simp only[push_cast,hal,h1,h3,h4,hT0',lens,Vl,↓WX,simprocAttr]
   exact⟨d,fs,rfl,hg,hfs,rfl,hnz.1,λe=>hPl (hnz.2 e)⟩
  obtain⟨l,es,hle,hes,hsh,ca⟩:=airport_c (n:=n) (p:=p) (i:=i) (by omega) (by omega) hlt hz
  rw[hpe]at ca
  have hlp:l.pure=true:=hle.pure (encI_pure es)
  have hap0:p.aps[i]?=some p.aps[i]:=by simp
  refine Ya (λa T'=>T'=T/\gQ a 65 (a[4]?=some (.int .i64 i)) [(1,.loc 0 0 0),(3,d)]) ?_ ?_
  ·simp only[push_cast,hal,h1,h3,h4,hT0',lens,hlt,↓WX,simprocAttr]
  rintro a T' ⟨rfl,hal,h1,h3,h4⟩
  refine Ya (λa T=>∃(d:D) (fs:List (Int×ByteArray)),a.length=65/\a[1]?=some (.loc 0 0 0)/\a[3]?=some (d)/\a[4]?=some (.int .i64 i)/\GV T d fs/\fs.length<=4*(i+1)/\T[0]?=some (.row 2 [p.enc])/\NZP (P (i+1)) fs d) ?_ ?_
  case refine_2=>
   rintro a T ⟨d,fs,hal,h1,h3,h4,hg,hfs,hT0,hnz⟩
   simp(disch:=omega)only[push_cast,hal,h1,h3,h4,Yf,↓WX,simprocAttr,WY]
   exact⟨hlt,d,fs,rfl,hg,hfs,hT0,hnz⟩
  rw[Yx]
  refine Ya (λa T=>T=T'/\gQ a 65 (a[5]?=some (l)) [(1,.loc 0 0 0),(3,d),(4,.int .i64 i)]) ?_ ?_
  ·simp only[push_cast,hal,h1,h3,h4,hT0',ca,↓WX,simprocAttr]
  rintro a T ⟨rfl,hal,h1,h3,h4,h5⟩
  have ci:=rdec2_c (n:=n) (by omega) (i:=i) (by omega)
  have hmx:=max_txt (s:=ByteArray.mk #[97,105,114,112,111,114,116,32]) (by decide) i
  simp only[push_cast,↓WX,simprocAttr]
  refine Yk (λk a T=>∃(d:D) (fs:List (Int×ByteArray)),a.length=65/\a[1]?=some (.loc 0 0 0)/\a[3]?=some (d)/\a[4]?=some (.int .i64 i)/\a[5]?=some (l)/\a[6]?=some (.int .i64 k)/\GV T d fs/\fs.length<=4*i+k/\T[0]?=some (.row 2 [p.enc])/\NZP (P i/\K k) fs d) es.length ?_ (by omega) ?_
  ·simp only[push_cast,hal,h1,h3,h4,h5,simprocAttr,WY]
   exact⟨d,fs,rfl,hg,by omega,hT0,hnz.1,λe=>⟨hnz.2 e,(hK 0).2 rfl⟩⟩
  rintro k a T hk ⟨d,fs,hal,h1,h3,h4,h5,h6,hg,hfs,hT0,hnz⟩
  have hT0':=hT0
  rw[hpe]at hT0'
  rcases hle with ⟨rfl,rfl⟩ | ⟨x,rfl⟩
  ·obtain rfl:k=0:=by simpa using hk
   simp only[WY]at h6
   simp only[push_cast,hal,h1,h3,h4,h5,h6,↓WX,simprocAttr,WY]
   exact⟨d,fs,rfl,hg,by omega,hT0,hnz.1,λe=>hPs i _ hap0 (hnz.2 e).1 (hsh rfl _ hap0)⟩
  rcases Kw hk with hkl |rfl
  case inr=>
   simp only[push_cast,hal,h1,h3,h4,h5,h6,Vl,↓WX,simprocAttr]
   exact⟨d,fs,rfl,hg,by omega,hT0,hnz.1,λe=>hPs i _ hap0 (hnz.2 e).1 (hsh (Ug ((hK _).1 (hnz.2 e).2)) _ hap0)⟩
  obtain⟨e,he⟩:∃e,es[k]?=some e:=⟨es[k],by simp⟩
  have hlt0:0<T.length:=(Kr.1 hT0).1
  obtain⟨W,hW,hgW,-,hkW⟩:=app_g hg (by omega) e (ByteArray.mk #[97,105,114,112,111,114,116,32]++dec2 i)
  have hW0:=hkW _ _ hnz.1 hT0
  simp(disch:=omega)only[push_cast,Vn,hal,h1,h3,h4,h5,h6,hkl,he,encI,ci,hmx,hW,Yf,↓WX,simprocAttr,WY]
  exact⟨_,_,rfl,hgW,by rw[Ku];exact Vu hfs,hW0,λn h=>by simp only[D.os.injEq]at h;omega,λe=>by simp at e⟩
 rintro a T ⟨d,fs,hal,h1,h3,hg,hfs,hT0,hnz⟩
 refine Ya (λa T=>∃(d:D) (fs:List (Int×ByteArray)),a.length=65/\a[1]?=some (.loc 0 0 0)/\a[3]?=some (d)/\GV T d fs/\fs.length<=160+4*p.dts.length/\T[0]?=some (.row 2 [p.enc])/\NZP Q fs d) ?_ ?_
 ·simp only[push_cast,↓WX,simprocAttr]
  refine Yk (λi a T=>∃(d:D) (fs:List (Int×ByteArray)),a.length=65/\a[1]?=some (.loc 0 0 0)/\a[3]?=some (d)/\a[7]?=some (.int .i64 i)/\GV T d fs/\fs.length<=160+4*i/\T[0]?=some (.row 2 [p.enc])/\NZP Q fs d) p.dts.length ?_ (by omega) ?_
  ·simp only[push_cast,hal,h1,h3,simprocAttr,WY]
   exact⟨d,fs,rfl,hg,by omega,hT0,hnz⟩
  rintro i a T hi ⟨d,fs,hal,h1,h3,h7,hg,hfs,hT0,hnz⟩
  have hT0':=hT0
  rw[hpe]at hT0'
  rcases Kw hi with hlt |rfl
  case inr=>
   simp only[push_cast,hal,h1,h3,h7,hT0',lend,Vl,↓WX,simprocAttr]
   exact⟨d,fs,rfl,hg,hfs,rfl,hnz⟩
  obtain⟨l,es,hle,hes,ca⟩:=distance_c (n:=n) (p:=p) (i:=i) (by omega) (by omega) (by omega) hlt
  rw[hpe]at ca
  have hlp:l.pure=true:=hle.pure (encI_pure es)
  refine Ya (λa T'=>T'=T/\gQ a 65 (a[7]?=some (.int .i64 i)) [(1,.loc 0 0 0),(3,d)]) ?_ ?_
  ·simp only[push_cast,hal,h1,h3,h7,hT0',lend,hlt,↓WX,simprocAttr]
  rintro a T' ⟨rfl,hal,h1,h3,h7⟩
  refine Ya (λa T=>∃(d:D) (fs:List (Int×ByteArray)),a.length=65/\a[1]?=some (.loc 0 0 0)/\a[3]?=some (d)/\a[7]?=some (.int .i64 i)/\GV T d fs/\fs.length<=160+4*(i+1)/\T[0]?=some (.row 2 [p.enc])/\NZP Q fs d) ?_ ?_
  case refine_2=>
   rintro a T ⟨d,fs,hal,h1,h3,h7,hg,hfs,hT0,hnz⟩
   simp(disch:=omega)only[push_cast,hal,h1,h3,h7,Yf,↓WX,simprocAttr,WY]
   exact⟨hlt,d,fs,rfl,hg,hfs,hT0,hnz⟩
  rw[Yx]
  refine Ya (λa T=>T=T'/\gQ a 65 (a[8]?=some (l)) [(1,.loc 0 0 0),(3,d),(7,.int .i64 i)]) ?_ ?_
  ·simp only[push_cast,hal,h1,h3,h7,hT0',ca,↓WX,simprocAttr]
  rintro a T ⟨rfl,hal,h1,h3,h7,h8⟩
  have ci:=rdec2_c (n:=n) (by omega) (i:=i) (by omega)
  have hmx:=max_txt (s:=ByteArray.mk #[100,105,115,116,97,110,99,101,32]) (by decide) i
  simp only[push_cast,↓WX,simprocAttr]
  refine Yk (λk a T=>∃(d:D) (fs:List (Int×ByteArray)),a.length=65/\a[1]?=some (.loc 0 0 0)/\a[3]?=some (d)/\a[7]?=some (.int .i64 i)/\a[8]?=some (l)/\a[9]?=some (.int .i64 k)/\GV T d fs/\fs.length<=160+4*i+k/\T[0]?=some (.row 2 [p.enc])/\NZP Q fs d) es.length ?_ (by omega) ?_
  ·simp only[push_cast,hal,h1,h3,h7,h8,simprocAttr,WY]
   exact⟨d,fs,rfl,hg,by omega,hT0,hnz⟩
  rintro k a T hk ⟨d,fs,hal,h1,h3,h7,h8,h9,hg,hfs,hT0,hnz⟩
  have hT0':=hT0
  rw[hpe]at hT0'
  rcases hle with ⟨rfl,rfl⟩ | ⟨x,rfl⟩
  ·obtain rfl:k=0:=by simpa using hk
   simp only[WY]at h9
   simp only[push_cast,hal,h1,h3,h7,h8,h9,↓WX,simprocAttr,WY]
   exact⟨d,fs,rfl,hg,by omega,hT0,hnz⟩
  rcases Kw hk with hkl |rfl
  case inr=>
   simp only[push_cast,hal,h1,h3,h7,h8,h9,Vl,↓WX,simprocAttr]
   exact⟨d,fs,rfl,hg,by omega,hT0,hnz⟩
  obtain⟨e,he⟩:∃e,es[k]?=some e:=⟨es[k],by simp⟩
  have hlt0:0<T.length:=(Kr.1 hT0).1
  obtain⟨W,hW,hgW,-,hkW⟩:=app_g hg (by omega) e (ByteArray.mk #[100,105,115,116,97,110,99,101,32]++dec2 i)
  have hW0:=hkW _ _ hnz.1 hT0
  simp(disch:=omega)only[push_cast,Vn,hal,h1,h3,h7,h8,h9,hkl,he,encI,ci,hmx,hW,Yf,↓WX,simprocAttr,WY]
  exact⟨_,_,rfl,hgW,by rw[Ku];exact Vu hfs,hW0,λn h=>by simp only[D.os.injEq]at h;omega,λe=>by simp at e⟩
 rintro a T ⟨d,fs,hal,h1,h3,hg,hfs,hT0,hnz⟩
 simp only[push_cast,hal,h3,Tryz.f20,↓WX,simprocAttr]
 exact⟨fs,hg,by omega,hnz.2⟩
theorem PCheck_s {n:Nat} {p:Plc} (hn:1001<=n) (hl:p.aps.length<=40) (hld:p.dts.length<=40) (hz:∀c∈p.aps,AptR (n-2) c):∃d fs,FZ d fs/\fs.length<=320/\(fs=[]->∀a∈p.aps,ShOk a.sh)/\∀st S,Yi E (Yb E n) st S 20 [.agg p.enc]=some (d,S):=by
 obtain⟨m,rfl⟩:∃m,n=m+1:=⟨n-1,by omega⟩
 obtain⟨d,T,ho,fs,hg,hl,hq⟩:=PCheck_d (n:=m) (by omega) hl hld hz
 obtain⟨d',hf,hz⟩:=FV.fz hg.fv
 exact⟨d',fs,hz,hl,hq,λst S=>Yd rfl (by simp[Yc,Yg,D.pure,Yt]) ho hf⟩
end Go.Proofs.YtaklebjoenophaaGreat.Dm
