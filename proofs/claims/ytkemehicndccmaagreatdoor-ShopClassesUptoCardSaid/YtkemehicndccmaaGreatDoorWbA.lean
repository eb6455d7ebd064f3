/-
  The reference's violations of configurations, of any size that the bound allows.
  The reference's violations of configurations of any size: a list, and empty only where the configurations are small.
-/
import Derived.Test.YtkemehicndccmaaGreatDoorSkQ
set_option linter.unusedSimpArgs false
set_option linter.unusedVariables false
namespace Go.Proofs.YtkemehicndccmaaGreatDoor.Dm
open Go Gw
set_option linter.unusedSimpArgs false
set_option linter.unusedSimpArgs false
namespace Wb

structure CfgB (c:Cfg):Prop where
 eq:c.equip.size≤1048576
 nm:∀y∈c.cabs,y.name.size≤1048576
 cl:∀y∈c.cabs,∀z∈y.cls,z.code.size≤1048576
 cabs:c.cabs.length≤262144
 cls:∀y∈c.cabs,y.cls.length≤1048576
theorem CfgB.z {c:Cfg} (h:CfgB c) {n:Nat} (hn:2000000≤n):CfgZ n c:=
 ⟨by have:=h.eq;omega,fun y hy=>by have:=h.nm y hy;omega,fun y hy z hz=>by have:=h.cl y hy z hz;omega⟩
def digs:ByteArray:=ByteArray.mk #[48,49,50,51,52,53,54,55,56,57]
theorem digW:∀(k:Nat) {n i:Nat},k≤10→i<10 ^ (k+1)→k+2≤n→∃s:ByteArray,s.size≤k+1∧∀st S,callD E (dcall E n) st S 77 [.int .u64 i]=some (.str s,S)
 |k,n,i,hk,hi,hn=>by
  obtain⟨m,rfl⟩:∃m,n=m+1:=⟨n-1,by omega⟩
  have hbig:10 ^ (k+1)≤10 ^ 11:=Nat.pow_le_pow_right (by omega) (by omega)
  have w1:∀j:Nat,j<10→IntKind.u64.wrap ((j:Int)+1)=(j:Int)+1:=fun j hj=>Int.emod_eq_of_lt (by omega) (by show (j:Int)+1<18446744073709551616;omega)
  have s1:∀j:Nat,j<10→(ByteArray.extract digs j (j+1)).size=1:=fun j hj=>by
   rw[ByteArray.size_extract]
   show min (j+1) 10-j=1
   omega
  by_cases h10:i<10
  ·have:WO (dcall E (m+1) 77 [.int .u64 i] []) fun d T=>d=.str (ByteArray.extract digs i (i+1)):=by
    refine wo_dcall Tryz.func77 rfl (by decide) rfl 19 rfl (fun a hal ha=>?_)
    have h0:a[0]? =some (.int .u64 i):=ha 0 (by simp)
    clear ha
    have hc:(i:Int)<10:=by omega
    have q1:(0:Int)≤(i:Int)+1:=by omega
    have q2:((i:Int)+1).toNat=i+1:=by omega
    have q3:i≤i+1:=by omega
    have q4:i+1≤10:=by omega
    have q5:(ByteArray.mk #[48,49,50,51,52,53,54,55,56,57]).size=10:=rfl
    unfold digs
    simp(maxSteps:=1000000)(disch:=omega)only[push_cast,hal,h0,hc,w1 i h10,q1,q2,q3,q4,q5,and_self,Tryz.f77,↓WX,simprocAttr]
   obtain⟨d,T,ho,rfl⟩:=this
   exact⟨_,by rw[s1 i h10];omega,fun st S=>callD_pure rfl rfl ho rfl⟩
  ·obtain⟨k',rfl⟩:∃k',k=k'+1:=⟨k-1,by
    rcases Nat.eq_zero_or_pos k with rfl |h
    ·simp at hi;omega
    ·omega⟩
   obtain⟨s,hs,cs⟩:=digW k' (n:=m) (i:=i / 10) (by omega) (by rw[Nat.pow_succ]at hi;omega) (by omega)
   have hs2:=s1 (i % 10) (by omega)
   refine⟨s++ByteArray.extract digs (i % 10) (i % 10+1),by rw[ba_len,hs2];omega,?_⟩
   have:WO (dcall E (m+1) 77 [.int .u64 i] []) fun d T=>d=.str (s++ByteArray.extract digs (i % 10) (i % 10+1)):=by
    refine wo_dcall Tryz.func77 rfl (by decide) rfl 19 rfl (fun a hal ha=>?_)
    have h0:a[0]? =some (.int .u64 i):=ha 0 (by simp)
    clear ha
    have hc:¬(i:Int)<10:=by omega
    obtain⟨r,hr⟩:∃r,r=i % 10:=⟨_,rfl⟩
    obtain⟨q,hq⟩:∃q,q=i / 10:=⟨_,rfl⟩
    have hrl:r<10:=by omega
    have t1:(i:Int).tmod 10=r:=by rw[hr];exact (Int.ofNat_tmod i 10).symm
    have t2:IntKind.u64.wrap ((i:Int).tdiv 10)=q:=by
     rw[Int.tdiv_eq_ediv_of_nonneg (by omega),show (i:Int) / 10=(q:Nat) by omega]
     exact Int.emod_eq_of_lt (by omega) (by show (q:Int)<18446744073709551616;omega)
    have m1:=mx_of (a:=s) (b:=ByteArray.extract digs r (r+1)) (by rw[s1 r hrl];omega)
    have q1:(0:Int)≤(r:Int)+1:=by omega
    have q2:((r:Int)+1).toNat=r+1:=by omega
    have q3:r≤r+1:=by omega
    have q4:r+1≤10:=by omega
    have q5:(ByteArray.mk #[48,49,50,51,52,53,54,55,56,57]).size=10:=rfl
    rw[←hq]at cs
    rw[←hr]
    unfold digs at m1 ⊢
    simp(maxSteps:=1000000)(disch:=omega)only[push_cast,gt_iff_lt,hal,h0,hc,t1,t2,w1 r hrl,cs,m1,q1,q2,q3,q4,q5,and_self,Tryz.f77,↓WX,simprocAttr]
   obtain⟨d,T,ho,rfl⟩:=this
   exact fun st S=>callD_pure rfl rfl ho rfl
theorem rdecW {n i:Nat} (hn:20≤n) (hi:i<1000000000):∃s:ByteArray,s.size≤10∧∀st S,callD E (dcall E n) st S 32 [.int .i64 i]=some (.str s,S):=by
 obtain⟨m,rfl⟩:∃m,n=m+1:=⟨n-1,by omega⟩
 obtain⟨s,hs,cs⟩:=digW 9 (n:=m) (i:=i) (by omega) (by omega) (by omega)
 refine⟨s,hs,?_⟩
 have:WO (dcall E (m+1) 32 [.int .i64 i] []) fun d T=>d=.str s:=by
  refine wo_dcall Tryz.func32 rfl (by decide) rfl 15 rfl (fun a hal ha=>?_)
  have h0:a[0]? =some (.int .i64 i):=ha 0 (by simp)
  clear ha
  have hc:¬(i:Int)<0:=by omega
  have w1:IntKind.u64.wrap (i:Int)=i:=Int.emod_eq_of_lt (by omega) (by show (i:Int)<18446744073709551616;omega)
  simp(maxSteps:=1000000)(disch:=omega)only[push_cast,hal,h0,hc,w1,cs,Tryz.f32,↓WX,simprocAttr]
 obtain⟨d,T,ho,rfl⟩:=this
 exact fun st S=>callD_pure rfl rfl ho rfl
theorem placeW {n i:Nat} {p w:ByteArray} (hn:50≤n) (hi:i<1000000000) (hp:p.size≤900) (hw:w.size≤10):∃s:ByteArray,s.size≤p.size+30∧∀st S,callD E (dcall E n) st S 39 [.str p,.str w,.int .i64 i]=some (.str s,S):=by
 obtain⟨m,rfl⟩:∃m,n=m+1:=⟨n-1,by omega⟩
 obtain⟨s,hs,cd⟩:=rdecW (n:=m) (i:=i) (by omega) hi
 have h1s:(ByteArray.mk #[32]).size=1:=rfl
 by_cases hne:p=ByteArray.mk #[]
 ·subst hne
  obtain⟨p,hp'⟩:∃p,p=ByteArray.mk #[]:=⟨_,rfl⟩
  rw[←hp']at hp ⊢
  refine⟨p++w++ByteArray.mk #[32]++s,by rw[ba_len,ba_len,ba_len];omega,?_⟩
  have:WO (dcall E (m+1) 39 [.str p,.str w,.int .i64 i] []) fun d T=>d=.str (p++w++ByteArray.mk #[32]++s):=by
   have m2:=mx_of (a:=p) (b:=w) (by omega)
   have m3:=mx_of (a:=p++w) (b:=ByteArray.mk #[32]) (by rw[ba_len];omega)
   have m4:=mx_of (a:=p++w++ByteArray.mk #[32]) (b:=s) (by rw[ba_len,ba_len];omega)
   refine wo_dcall Tryz.func39 rfl (by decide) rfl 18 rfl (fun a hal ha=>?_)
   have h0:a[0]? =some (.str p):=ha 0 (by simp)
   have h1:a[1]? =some (.str w):=ha 1 (by simp)
   have h2:a[2]? =some (.int .i64 i):=ha 2 (by simp)
   clear ha
   have hq:(p.toList == (ByteArray.mk #[]).toList)=true:=by rw[hp',str_eq];rfl
   simp(maxSteps:=1000000)(disch:=omega)only[push_cast,gt_iff_lt,hal,h0,h1,h2,cd,hq,dStr,m2,m3,m4,Bool.not_true,Tryz.f39,↓WX,simprocAttr]
  obtain⟨d,T,ho,rfl⟩:=this
  exact fun st S=>callD_pure rfl rfl ho rfl
 ·refine⟨p++ByteArray.mk #[32]++w++ByteArray.mk #[32]++s,by rw[ba_len,ba_len,ba_len,ba_len];omega,?_⟩
  have:WO (dcall E (m+1) 39 [.str p,.str w,.int .i64 i] []) fun d T=>d=.str (p++ByteArray.mk #[32]++w++ByteArray.mk #[32]++s):=by
   have m1:=mx_of (a:=p) (b:=ByteArray.mk #[32]) (by omega)
   have m2:=mx_of (a:=p++ByteArray.mk #[32]) (b:=w) (by rw[ba_len];omega)
   have m3:=mx_of (a:=p++ByteArray.mk #[32]++w) (b:=ByteArray.mk #[32]) (by rw[ba_len,ba_len];omega)
   have m4:=mx_of (a:=p++ByteArray.mk #[32]++w++ByteArray.mk #[32]) (b:=s) (by rw[ba_len,ba_len,ba_len];omega)
   refine wo_dcall Tryz.func39 rfl (by decide) rfl 18 rfl (fun a hal ha=>?_)
   have h0:a[0]? =some (.str p):=ha 0 (by simp)
   have h1:a[1]? =some (.str w):=ha 1 (by simp)
   have h2:a[2]? =some (.int .i64 i):=ha 2 (by simp)
   clear ha
   simp(maxSteps:=1000000)(disch:=omega)only[push_cast,gt_iff_lt,hal,h0,h1,h2,cd,str_eq,hne,m1,m2,m3,m4,Tryz.f39,↓WX,simprocAttr]
  obtain⟨d,T,ho,rfl⟩:=this
  exact fun st S=>callD_pure rfl rfl ho rfl
/-! ### Classes that occur before: one answer or the other -/
set_option maxHeartbeats 4000000 in
set_option maxRecDepth 100000 in
theorem occW {n k j:Nat} {c:Cfg} {y:Cab} {z:Cls} (hn:2000000≤n) (hc:CfgB c) (hy:c.cabs[k]? =some y) (hz:y.cls[j]? =some z):∃b,∀st S,callD E (dcall E n) st S 122 [.agg c.enc,.int .i64 k,.int .i64 j]=some (.bool b,S):=by
 obtain⟨m,rfl⟩:∃m,n=m+1:=⟨n-1,by omega⟩
 have hl:=hc.cabs
 have hkl:k<c.cabs.length:=lt_of_get hy
 have hjl:j<y.cls.length:=lt_of_get hz
 have hyl:=hc.cls y (List.mem_of_getElem? hy)
 have:WO (dcall E (m+1) 122 [.agg c.enc,.int .i64 k,.int .i64 j] []) fun d T=>∃b,d=.bool b:=by
  refine wo_dcall Tryz.func122 rfl (by decide) rfl 54 rfl (fun a hal ha=>?_)
  have h0:a[0]? =some (.agg c.enc):=ha 0 (by simp)
  have h1:a[1]? =some (.int .i64 k):=ha 1 (by simp)
  have h2:a[2]? =some (.int .i64 j):=ha 2 (by simp)
  clear ha
  simp only[Cfg.enc]at h0
  simp(maxSteps:=1000000)(disch:=omega)only[push_cast,h0,↓WX,simprocAttr]
  refine wl_loop (fun i a T=>T=[Ob.row 2 [[.str c.equip,.sl 4 (c.cabs.map Cab.enc) c.cabsx]]]∧a.length=54∧a[1]? =some (.int .i64 k)∧a[2]? =some (.int .i64 j)∧a[3]? =some (.loc 0 0 0)∧a[7]? =some (.int .i64 i)) k ?_ (by omega) ?_
  ·simp(maxSteps:=1000000)(disch:=omega)only[push_cast,hal,h1,h2,Int.natCast_zero,simprocAttr]
  clear hal h0 h1 h2 a
  rintro i a T hi ⟨rfl,hal,h1,h2,h3,h7⟩
  have hil:(i:Int)≤k:=by omega
  obtain⟨y',hy'⟩:∃y',c.cabs[i]? =some y':=⟨c.cabs[i]'(by omega),by simp⟩
  have hly:=hc.cls y' (List.mem_of_getElem? hy')
  simp(maxSteps:=1000000)(disch:=omega)only[push_cast,hal,h1,h7,hil,↓WX,simprocAttr]
  refine wl_loop (fun w a T=>(T=[Ob.row 2 [[.str c.equip,.sl 4 (c.cabs.map Cab.enc) c.cabsx]]]∧(i=k→w≤j))∧a.length=54∧a[1]? =some (.int .i64 k)∧a[2]? =some (.int .i64 j)∧a[3]? =some (.loc 0 0 0)∧a[7]? =some (.int .i64 i)∧a[8]? =some (.int .i64 w)) y'.cls.length ?_ (by omega) ?_
  ·simp(maxSteps:=1000000)(disch:=omega)only[push_cast,hal,h1,h2,h3,h7,Int.natCast_zero,Nat.zero_le,simprocAttr]
   exact fun _=>trivial
  clear hal h1 h2 h3 h7 a
  rintro w a T hw ⟨⟨rfl,hwj⟩,hal,h1,h2,h3,h7,h8⟩
  by_cases hik:i=k
  ·subst hik
   rw[hy]at hy'
   cases hy'
   have hwj:=hwj rfl
   have hwl:w<y.cls.length:=by omega
   by_cases hwe:w=j
   ·subst hwe
    simp(maxSteps:=1000000)(disch:=omega)only[push_cast,hal,h1,h2,h3,h7,h8,hwl,hy,Cab.enc,Tryz.f122,↓WX,simprocAttr]
    exact⟨_,rfl⟩
   ·have hwe':¬(w:Int)=j:=by omega
    obtain⟨z',hz'⟩:∃z',y.cls[w]? =some z':=⟨y.cls[w]'(by omega),by simp⟩
    by_cases q:z'.code=z.code
    ·simp(maxSteps:=1000000)(disch:=omega)only[push_cast,hal,h1,h2,h3,h7,h8,hwl,hwe',hy,hz,hz',q,str_eq,Cab.enc,Cls.enc,Tryz.f122,↓WX,simprocAttr]
     exact⟨_,rfl⟩
    ·simp(maxSteps:=1000000)(disch:=omega)only[push_cast,hal,h1,h2,h3,h7,h8,hwl,hwe',hy,hz,hz',q,str_eq,Cab.enc,Cls.enc,wrap_ok,Int.natCast_add,Int.natCast_one,↓WX,simprocAttr]
     omega
  ·have hik':¬(i:Int)=k:=by omega
   have hik2:i<k:=by omega
   rcases Nat.lt_or_eq_of_le hw with hwl |rfl
   case inr=>
    simp(maxSteps:=1000000)(disch:=omega)only[push_cast,hal,h1,h2,h3,h7,h8,Nat.lt_irrefl,hik2,hy',Cab.enc,wrap_ok,Int.natCast_add,Int.natCast_one,↓WX,simprocAttr]
   obtain⟨z',hz'⟩:∃z',y'.cls[w]? =some z':=⟨y'.cls[w]'(by omega),by simp⟩
   by_cases q:z'.code=z.code
   ·simp(maxSteps:=1000000)(disch:=omega)only[push_cast,hal,h1,h2,h3,h7,h8,hwl,hik',hy,hy',hz,hz',q,str_eq,Cab.enc,Cls.enc,Tryz.f122,↓WX,simprocAttr]
    exact⟨_,rfl⟩
   ·simp(maxSteps:=1000000)(disch:=omega)only[push_cast,hal,h1,h2,h3,h7,h8,hwl,hik',hy,hy',hz,hz',q,str_eq,Cab.enc,Cls.enc,wrap_ok,Int.natCast_add,Int.natCast_one,↓WX,simprocAttr]
    exact fun h=>absurd h hik
 obtain⟨d,T,ho,b,rfl⟩:=this
 exact⟨b,fun st S=>callD_pure rfl (by simp[pureL_cons,pureL_nil,D.pure,Cfg_pure]) ho rfl⟩
theorem rAuthW {n:Nat} (hn:1≤n) (y:Cab):∃v,∀st S,callD E (dcall E n) st S 123 [.agg y.enc]=some (.int .i64 v,S):=by
 obtain⟨m,rfl⟩:∃m,n=m+1:=⟨n-1,by omega⟩
 have:WO (dcall E (m+1) 123 [.agg y.enc] []) fun d T=>d=.int .i64 (IntKind.i64.wrap (y.seats+y.over)):=by
  refine wo_dcall Tryz.func123 rfl (by decide) rfl 8 rfl (fun a hal ha=>?_)
  have h0:a[0]? =some (.agg y.enc):=ha 0 (by simp)
  clear ha
  simp only[Cab.enc]at h0
  simp(maxSteps:=1000000)(disch:=omega)only[push_cast,hal,h0,Tryz.f123,↓WX,simprocAttr]
 obtain⟨d,T,ho,rfl⟩:=this
 exact⟨_,fun st S=>callD_pure rfl (by simp[pureL_cons,pureL_nil,D.pure,Cab_pure]) ho rfl⟩
end Wb
end Go.Proofs.YtkemehicndccmaaGreatDoor.Dm
namespace Go.Proofs.YtkemehicndccmaaGreatDoor.Dm
open Go Gw
set_option linter.unusedSimpArgs false
set_option linter.unusedSimpArgs false
namespace Wb

def FN (T:List Ob) (a:Option D) (m:Nat):Prop:=∃d fs,a=some d∧GL 2 encF T d fs∧fs.length≤m
def FN1 (T:List Ob) (a:Option D) (m:Nat):Prop:=∃d fs,a=some d∧GL 2 encF T d fs∧fs.length≤m∧fs≠[]
theorem app_w {T:List Ob} {d:D} {fs:List (Int×ByteArray)} (h:GL 2 encF T d fs) (hl:fs.length≤4999999999999) (b:Bool) (e:Int) (s:ByteArray):
  ∃d' T' fs',(b=true→dAppend Tryz.prog T 66 66 d (.sl 2 [[.int .i64 e,.str s]] true)=some (d',T'))∧(b=false→d'=d∧T'=T)∧GL 2 encF T' d' fs'∧fs'.length≤fs.length+1∧(b=true∨fs≠[]→fs'≠[])∧KeepF T T':=by
 obtain⟨d',T',h1,h2,h3,h4⟩:=app_if h (by omega) b e s
 refine⟨d',T',_,h1,h2,h3,by rw[List.length_append];have:=ifF_len b e s;omega,?_,h4⟩
 rintro (hb |hb)
 ·rw[hb,ifF,if_pos rfl];simp
 ·simp[hb]
set_option maxHeartbeats 16000000 in
set_option maxRecDepth 100000 in
theorem classesW_d {n k:Nat} {c:Cfg} {y:Cab} {p:ByteArray} (hn:3000000≤n) (hc:CfgB c) (hy:c.cabs[k]? =some y) (hp:p.size≤900):
  WO (dcall E (n+1) 95 [.agg c.enc,.int .i64 k,.str p] []) fun d T=>∃fs,GL 2 encF T d fs∧fs.length≤3*y.cls.length:=by
 have hkl:k<c.cabs.length:=lt_of_get hy
 have hym:=List.mem_of_getElem? hy
 have hly:=hc.cls y hym
 refine wo_dcall Tryz.func95 rfl (by decide) rfl 86 rfl (fun a hal ha=>?_)
 have h0:a[0]? =some (.agg c.enc):=ha 0 (by simp)
 have h1:a[1]? =some (.int .i64 k):=ha 1 (by simp)
 have h2:a[2]? =some (.str p):=ha 2 (by simp)
 clear ha
 simp only[Cfg.enc]at h0
 simp(maxSteps:=1000000)(disch:=omega)only[push_cast,hal,h0,h1,hy,Cab.enc,↓WX,simprocAttr]
 refine wl_loop (fun j a T=>(T[0]? =some (.row 2 [[.str c.equip,.sl 4 (c.cabs.map Cab.enc) c.cabsx]])∧T[1]? =some (cabR y)∧FN T a[7]? (3*j))∧a.length=86∧a[1]? =some (.int .i64 k)∧a[2]? =some (.str p)∧a[3]? =some (.loc 0 0 0)∧a[8]? =some (.loc 1 0 0)∧a[9]? =some (.int .i64 j)) y.cls.length ?_ (by omega) ?_
 ·simp(maxSteps:=1000000)(disch:=omega)only[push_cast,hal,h1,h2,Int.natCast_zero,FN,simprocAttr]
  exact⟨_,_,rfl,GL.nil,Nat.zero_le _⟩
 clear hal h0 h1 h2 a
 rintro j a T hj ⟨⟨hT0,hT1,d,fs,h7,hg,hfl⟩,hal,h1,h2,h3,h8,h9⟩
 rcases Nat.lt_or_eq_of_le hj with hlt |rfl
 case inr=>
  simp(maxSteps:=1000000)(disch:=omega)only[push_cast,hal,h7,h8,h9,Nat.lt_irrefl,hT1,Tryz.f95,↓WX,simprocAttr]
  exact⟨fs,hg,hfl⟩
 obtain⟨z,hz⟩:∃z,y.cls[j]? =some z:=⟨y.cls[j],by simp⟩
 have hzz:=hc.cl y hym z (List.mem_of_getElem? hz)
 obtain⟨q,hq,cp⟩:=placeW (n:=n) (i:=j) (p:=p) (w:=ByteArray.mk #[99,108,97,115,115]) (by omega) (by omega) hp (by decide)
 have cc:=r01_class (n:=n) (s:=z.code) (by omega) (by omega)
 obtain⟨bo,co⟩:=occW (n:=n) (by omega) hc hy hz
 have cr:=rRng_c (n:=n) (by omega) y
 obtain⟨va,ca⟩:=rAuthW (n:=n) (by omega) y
 have hca:c.enc=[.str c.equip,.sl 4 (c.cabs.map Cab.enc) c.cabsx]:=rfl
 rw[hca]at co
 have hcb:y.enc=[.str y.name,.int .i64 y.seats,.int .i64 y.over,.sl 2 (y.cls.map Cls.enc) y.clsx]:=rfl
 rw[hcb]at cr ca
 obtain⟨S0,hS0⟩:∃S0,S0=T++[Ob.row 2 [[.str z.code,.int .i64 z.prot]]]:=⟨_,rfl⟩
 have k0:KeepF T S0:=by rw[hS0];exact KeepF.push
 have g0:S0[T.length]? =some (.row 2 [[.str z.code,.int .i64 z.prot]]):=by rw[hS0];exact get_end
 have hg0:GL 2 encF S0 d fs:=by rw[hS0];exact hg.push _
 have v0:=k0 0 _ not_fault2 hT0
 have v1:=k0 1 _ not_fault4 hT1
 refine wc_scut (fun a T'=>T'=T∧a.length=86∧a[1]? =some (.int .i64 k)∧a[2]? =some (.str p)∧a[3]? =some (.loc 0 0 0)∧a[7]? =some (d)∧a[8]? =some (.loc 1 0 0)∧a[9]? =some (.int .i64 j)) ?_ ?_
 ·simp(maxSteps:=1000000)(disch:=omega)only[push_cast,hal,h1,h2,h3,h7,h8,h9,hlt,hT1,↓WX,simprocAttr]
 clear hal h1 h2 h3 h7 h8 h9 a
 rintro a T' ⟨rfl,hal,h1,h2,h3,h7,h8,h9⟩
 rw[wc_seq,wc_block]
 refine wc_scut (fun a V=>V=S0∧a.length=86∧a[1]? =some (.int .i64 k)∧a[2]? =some (.str p)∧a[3]? =some (.loc 0 0 0)∧a[7]? =some (d)∧a[8]? =some (.loc 1 0 0)∧a[9]? =some (.int .i64 j)∧a[10]? =some (.str q)∧a[11]? =some (.loc T'.length 0 0)) ?_ ?_
 ·simp(maxSteps:=1000000)(disch:=omega)only[push_cast,hal,h1,h2,h3,h7,h8,h9,hz,cp,hT1,set_end,get_end,Cls.enc,↓WX,simprocAttr]
  exact hS0.symm
 clear hal h1 h2 h3 h7 h8 h9 a
 rintro a V ⟨rfl,hal,h1,h2,h3,h7,h8,h9,h10,h11⟩
 refine wc_scut (fun a V'=>(KeepF V V'∧FN V' a[7]? (3*j+1))∧a.length=86∧a[1]? =some (.int .i64 k)∧a[2]? =some (.str p)∧a[3]? =some (.loc 0 0 0)∧a[8]? =some (.loc 1 0 0)∧a[9]? =some (.int .i64 j)∧a[10]? =some (.str q)∧a[11]? =some (.loc T'.length 0 0)) ?_ ?_
 ·obtain⟨d1,T1,fs1,p1,q1,g1,l1,-,k1⟩:=app_w hg0 (by omega) (!clsB z.code) 16 q
  cases hb:clsB z.code
  ·rw[hb]at p1 cc
   replace p1:=p1 rfl
   simp(maxSteps:=1000000)(disch:=omega)only[push_cast,hal,h1,h2,h3,h7,h8,h9,h10,h11,g0,cc,p1,dUn,Bool.not_false,FN,↓WX,simprocAttr]
   exact⟨k1,_,_,rfl,g1,by omega⟩
  ·rw[hb]at q1 cc
   obtain⟨rfl,rfl⟩:=q1 rfl
   simp(maxSteps:=1000000)(disch:=omega)only[push_cast,hal,h1,h2,h3,h7,h8,h9,h10,h11,g0,cc,dUn,Bool.not_true,FN,↓WX,simprocAttr]
   exact⟨k1,_,_,rfl,g1,by omega⟩
 clear hal h1 h2 h3 h7 h8 h9 h10 h11 a
 rintro a V1 ⟨⟨k1,d1,fs1,h7,g1,l1⟩,hal,h1,h2,h3,h8,h9,h10,h11⟩
 have v01:=k1 0 _ not_fault2 v0
 have v11:=k1 1 _ not_fault4 v1
 have v21:=k1 _ _ not_fault2 g0
 refine wc_scut (fun a V'=>(KeepF V1 V'∧FN V' a[7]? (3*j+2))∧a.length=86∧a[1]? =some (.int .i64 k)∧a[2]? =some (.str p)∧a[3]? =some (.loc 0 0 0)∧a[8]? =some (.loc 1 0 0)∧a[9]? =some (.int .i64 j)∧a[10]? =some (.str q)∧a[11]? =some (.loc T'.length 0 0)) ?_ ?_
 ·obtain⟨d2,T2,fs2,p2,q2,g2,l2,-,k2⟩:=app_w g1 (by omega) bo 6 q
  cases hb:bo
  ·rw[hb]at q2 co
   obtain⟨rfl,rfl⟩:=q2 rfl
   simp(maxSteps:=1000000)(disch:=omega)only[push_cast,hal,h1,h2,h3,h7,h8,h9,h10,h11,v01,co,FN,↓WX,simprocAttr]
   exact⟨k2,_,_,rfl,g2,by omega⟩
  ·rw[hb]at p2 co
   replace p2:=p2 rfl
   simp(maxSteps:=1000000)(disch:=omega)only[push_cast,hal,h1,h2,h3,h7,h8,h9,h10,h11,v01,co,p2,FN,↓WX,simprocAttr]
   exact⟨k2,_,_,rfl,g2,by omega⟩
 clear hal h1 h2 h3 h7 h8 h9 h10 h11 a
 rintro a V2 ⟨⟨k2,d2,fs2,h7,g2,l2⟩,hal,h1,h2,h3,h8,h9,h10,h11⟩
 have v02:=k2 0 _ not_fault2 v01
 have v12:=k2 1 _ not_fault4 v11
 have v22:=k2 _ _ not_fault2 v21
 refine wc_scut (fun a V'=>(V'=V2∧∃b,a[79]? =some (.bool b))∧a.length=86∧a[1]? =some (.int .i64 k)∧a[2]? =some (.str p)∧a[3]? =some (.loc 0 0 0)∧a[7]? =some (d2)∧a[8]? =some (.loc 1 0 0)∧a[9]? =some (.int .i64 j)∧a[10]? =some (.str q)∧a[11]? =some (.loc T'.length 0 0)) ?_ ?_
 ·have hj0:j=0∨0<j:=by omega
  by_cases c1:z.prot<0
  ·simp(maxSteps:=1000000)(disch:=omega)only[push_cast,hal,h1,h2,h3,h7,h8,h9,h10,h11,v22,c1,↓WX,simprocAttr]
   exact⟨_,rfl⟩
  rcases hj0 with hj0 |hj0
  ·have c2:¬(0:Int)<j:=by omega
   cases hr:rngB y
   ·rw[hr]at cr
    simp(maxSteps:=1000000)(disch:=omega)only[push_cast,gt_iff_lt,hal,h1,h2,h3,h7,h8,h9,h10,h11,v22,v12,c1,c2,cr,↓WX,simprocAttr]
    exact⟨_,rfl⟩
   ·rw[hr]at cr
    by_cases c5:va<z.prot
    ·simp(maxSteps:=1000000)(disch:=omega)only[push_cast,gt_iff_lt,hal,h1,h2,h3,h7,h8,h9,h10,h11,v22,v12,c1,c2,cr,ca,c5,↓WX,simprocAttr]
     exact⟨_,rfl⟩
    ·simp(maxSteps:=1000000)(disch:=omega)only[push_cast,gt_iff_lt,hal,h1,h2,h3,h7,h8,h9,h10,h11,v22,v12,c1,c2,cr,ca,c5,↓WX,simprocAttr]
     exact⟨_,rfl⟩
  ·have c2:(0:Int)<j:=by omega
   obtain⟨z',hz'⟩:∃z',y.cls[j-1]? =some z':=⟨y.cls[j-1]'(by omega),by simp⟩
   have hpi:((j:Int)-1).toNat=j-1:=by omega
   have hpn:(0:Int)≤(j:Int)-1:=by omega
   by_cases c3:z.prot<z'.prot
   ·simp(maxSteps:=1000000)(disch:=omega)only[push_cast,gt_iff_lt,hal,h1,h2,h3,h7,h8,h9,h10,h11,v22,v12,c1,c2,c3,hz',hpi,hpn,Cls.enc,wrap_ok,↓WX,simprocAttr]
    exact⟨_,rfl⟩
   cases hr:rngB y
   ·rw[hr]at cr
    simp(maxSteps:=1000000)(disch:=omega)only[push_cast,gt_iff_lt,hal,h1,h2,h3,h7,h8,h9,h10,h11,v22,v12,c1,c2,c3,hz',hpi,hpn,cr,Cls.enc,wrap_ok,↓WX,simprocAttr]
    exact⟨_,rfl⟩
   ·rw[hr]at cr
    by_cases c5:va<z.prot
    ·simp(maxSteps:=1000000)(disch:=omega)only[push_cast,gt_iff_lt,hal,h1,h2,h3,h7,h8,h9,h10,h11,v22,v12,c1,c2,c3,hz',hpi,hpn,cr,ca,c5,Cls.enc,wrap_ok,↓WX,simprocAttr]
     exact⟨_,rfl⟩
    ·simp(maxSteps:=1000000)(disch:=omega)only[push_cast,gt_iff_lt,hal,h1,h2,h3,h7,h8,h9,h10,h11,v22,v12,c1,c2,c3,hz',hpi,hpn,cr,ca,c5,Cls.enc,wrap_ok,↓WX,simprocAttr]
     exact⟨_,rfl⟩
 clear hal h1 h2 h3 h7 h8 h9 h10 h11 a
 rintro a V' ⟨⟨rfl,b,h79⟩,hal,h1,h2,h3,h7,h8,h9,h10,h11⟩
 obtain⟨d3,T3,fs3,p3,q3,g3,l3,-,k3⟩:=app_w g2 (by omega) b 2 q
 have v03:=k3 0 _ not_fault2 v02
 have v13:=k3 1 _ not_fault4 v12
 cases b
 ·obtain⟨rfl,rfl⟩:=q3 rfl
  simp(maxSteps:=1000000)(disch:=omega)only[push_cast,hal,h1,h2,h3,h7,h8,h9,h79,wrap_ok,Int.natCast_add,Int.natCast_one,FN,↓WX,simprocAttr]
  exact⟨hlt,v03,v13,_,_,rfl,g3,by omega⟩
 ·replace p3:=p3 rfl
  simp(maxSteps:=1000000)(disch:=omega)only[push_cast,hal,h1,h2,h3,h7,h8,h9,h10,h79,p3,wrap_ok,Int.natCast_add,Int.natCast_one,FN,↓WX,simprocAttr]
  exact⟨hlt,v03,v13,_,_,rfl,g3,by omega⟩
theorem classesW {n k:Nat} {c:Cfg} {y:Cab} {p:ByteArray} (hn:3000001≤n) (hc:CfgB c) (hy:c.cabs[k]? =some y) (hp:p.size≤900):
  ∃x fs,FLs 2 encF x fs∧fs.length≤3*y.cls.length∧∀st S,callD E (dcall E n) st S 95 [.agg c.enc,.int .i64 k,.str p]=some (x,S):=by
 obtain⟨m,rfl⟩:∃m,n=m+1:=⟨n-1,by omega⟩
 obtain⟨d,T,ho,fs,hg,hl⟩:=classesW_d (n:=m) (p:=p) (by omega) hc hy hp
 obtain⟨d',hf,hd⟩:=hg.fls (encF_pure _)
 exact⟨d',fs,hd,hl,fun st S=>callD_pure rfl (by simp[pureL_cons,pureL_nil,D.pure,Cfg_pure]) ho hf⟩
end Wb
end Go.Proofs.YtkemehicndccmaaGreatDoor.Dm
