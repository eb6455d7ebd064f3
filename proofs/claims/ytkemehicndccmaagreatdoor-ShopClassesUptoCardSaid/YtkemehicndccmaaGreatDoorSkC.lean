/-
  The machine at the program's check of configurations without violations.
-/
import Derived.Test.YtkemehicndccmaaGreatDoorSkK
import Derived.Test.YtkemehicndccmaaGreatDoorSkR
set_option linter.unusedSimpArgs false
set_option linter.unusedVariables false
namespace Go.Proofs.YtkemehicndccmaaGreatDoor.Dm
open Go Gw
set_option linter.unusedSimpArgs false
set_option linter.unusedSimpArgs false

structure CabGood (y:Cab) (seen:List ByteArray):Prop where
 nm:codeS y.name 1 8=true
 rng:rngB y=true
 l1:¬(y.cls.length:Int)<1
 l2:¬(26:Int)<y.cls.length
 cls:∀(j:Nat) (z:Cls),y.cls[j]? =some z→clsB z.code=true∧inB z.code (seen++(y.cls.take j).map (·.code))=false∧protB y j z=false
structure CfgGood (x:Cfg):Prop where
 eq:codeS x.equip 3 3=true
 l1:¬(x.cabs.length:Int)<1
 l2:¬(4:Int)<x.cabs.length
 cab:∀(k:Nat) (y:Cab),x.cabs[k]? =some y→CabGood y (codes (x.cabs.take k))∧inB y.name ((x.cabs.take k).map (·.name))=false
theorem bnot_false {b:Bool} (h:(!b)=false):b=true:=by cases b <;> simp_all
theorem clsL_good {at':ByteArray} {seen:List ByteArray} {y:Cab}:∀ {n:Nat},clsL at' seen y n=[]→∀(j:Nat) (z:Cls),j<n→y.cls[j]? =some z→clsB z.code=true∧inB z.code (seen++(y.cls.take j).map (·.code))=false∧protB y j z=false
 |0,_,j,z,hj,_=>by omega
 |n+1,h,j,z,hj,hz=>by
  unfold clsL at h
  rw[List.append_eq_nil_iff]at h
  by_cases e:j=n
  ·subst e
   rw[hz]at h
   have h2:=h.2
   simp only[clsF,List.append_eq_nil_iff]at h2
   exact⟨bnot_false (ifF_nil h2.1.1),ifF_nil h2.1.2,ifF_nil h2.2⟩
  ·exact clsL_good h.1 j z (by omega) hz
theorem cab_good {at':ByteArray} {pre:List Cab} {k:Nat} {y:Cab} (h:cabF at' pre k y=[]):CabGood y (codes pre)∧inB y.name (pre.map (·.name))=false:=by
 simp only[cabF,List.append_eq_nil_iff]at h
 obtain⟨⟨⟨⟨h1,h2⟩,h3⟩,h4⟩,h5⟩:=h
 have h4:=ifF_nil h4
 simp only[Bool.or_eq_false_iff,decide_eq_false_iff_not]at h4
 exact⟨⟨bnot_false (ifF_nil h1),bnot_false (ifF_nil h3),by omega,by omega,fun j z hz=>clsL_good h5 j z (lt_of_get hz) hz⟩,ifF_nil h2⟩
theorem cfg_good {pre:List Cfg} {i:Nat} {x:Cfg} (h:cfgF pre i x=[]):CfgGood x∧inB x.equip (pre.map (·.equip))=false:=by
 simp only[cfgF,List.append_eq_nil_iff]at h
 obtain⟨⟨⟨h1,h2⟩,h3⟩,h4⟩:=h
 have h3:=ifF_nil h3
 simp only[Bool.or_eq_false_iff,decide_eq_false_iff_not]at h3
 exact⟨⟨bnot_false (ifF_nil h1),by omega,by omega,fun k y hy=>cab_good (cabL_nil h4 k y (lt_of_get hy) hy)⟩,ifF_nil h2⟩
theorem add0_c {n k:Nat} {e:Int} (hn:1≤n) (st:Bool) (S:List Ob):callD E (dcall E n) st S 105 [.loc k 0 0,.bool false,.int .i64 e]=some (.tup [],S):=by
 obtain⟨m,rfl⟩:∃m,n=m+1:=⟨n-1,by omega⟩
 have:WO (dcall E (m+1) 105 [.loc k 0 0,.bool false,.int .i64 e] S) fun d T=>d=.tup []∧T=S:=by
  refine wo_dcall Tryz.func105 rfl (by decide) rfl 22 rfl (fun a hal ha=>?_)
  have h0:a[0]? =some (.loc k 0 0):=ha 0 (by simp)
  have h1:a[1]? =some (.bool false):=ha 1 (by simp)
  have h2:a[2]? =some (.int .i64 e):=ha 2 (by simp)
  clear ha
  simp(maxSteps:=1000000)(disch:=omega)only[push_cast,hal,h1,Tryz.f105,↓WX,simprocAttr]
 obtain⟨d,T,ho,rfl,rfl⟩:=this
 unfold callD
 rw[show E.mode 105=.gen from rfl]
 exact ho
theorem keyOk_str {s:ByteArray} (h:s.size≤9223372036854775807):keyOk Tryz.prog 9 (.str s)=true:=by
 have m1:s.size≤maxLen:=by simp only[maxLen];exact h
 unfold keyOk
 simp only[litV,litC]
 unfold keyOf
 rw[Tryz.underlying9]
 dsimp only
 unfold mapKey
 rw[Tryz.underlying9]
 simp[m1]
theorem keys_str:E.keys 9=true:=by kernel_rfl
theorem dec2_c {n:Nat} (hn:50≤n) {i:Nat} (hi:i<100) (st:Bool) (S:List Ob):callD E (dcall E n) st S 104 [.int .i64 i]=some (.str (dec2 i),S):=by
 obtain⟨m,rfl⟩:∃m,n=m+1:=⟨n-1,by omega⟩
 have ci:=itoa2_c (n:=m) (by omega) hi
 have:WO (dcall E (m+1) 104 [.int .i64 i] []) fun d T=>d=.str (dec2 i):=by
  refine wo_dcall Tryz.func104 rfl (by decide) rfl 5 rfl (fun a hal ha=>?_)
  have h0:a[0]? =some (.int .i64 i):=ha 0 (by simp)
  clear ha
  simp(maxSteps:=1000000)(disch:=omega)only[push_cast,hal,h0,ci,Tryz.f104,↓WX,simprocAttr]
 obtain⟨d,T,ho,rfl⟩:=this
 exact callD_pure rfl rfl ho rfl
theorem class_c {n:Nat} (hn:3≤n) (s:ByteArray) (st:Bool) (S:List Ob):callD E (dcall E n) st S 132 [.str s]=some (.bool (clsB s),S):=by
 obtain⟨m,rfl⟩:∃m,n=m+1:=⟨n-1,by omega⟩
 have c1:=capital_c (n:=m) (by omega)
 have:WO (dcall E (m+1) 132 [.str s] []) fun d T=>d=.bool (clsB s)∧T=[]:=by
  refine wo_dcall Tryz.func132 rfl (by decide) rfl 11 rfl (fun a hal ha=>?_)
  have h0:a[0]? =some (.str s):=ha 0 (by simp)
  clear ha
  unfold clsB
  by_cases h1:s.size=1
  ·have h1':(s.size:Int)=1:=by omega
   obtain⟨b,hb⟩:=byte_at' (s:=s) (i:=0) (by omega)
   rw[hb]
   simp(maxSteps:=1000000)(disch:=omega)only[push_cast,hal,h0,h1,hb,c1,decide_true,Bool.true_and,Tryz.f132,↓WX,simprocAttr]
  ·have h1':¬(s.size:Int)=1:=by omega
   simp(maxSteps:=1000000)(disch:=omega)only[push_cast,hal,h0,h1,h1',decide_false,Bool.false_and,Tryz.f132,↓WX,simprocAttr]
 exact callD_pure rfl rfl (eq_of_wo this) rfl

abbrev kS:TypeId:=9
theorem look_set {ps:List (D×D)} {l:List ByteArray} (h:SetIs ps l) {t:ByteArray} (ht:inB t l=false):lookM ps (.str t)=none:=by
 rw[h.2,ht];rfl
theorem code38 {n:Nat} {s:ByteArray} {l m:Int} (hn:s.size+5<n) (hz:s.size≤9223372036854775807) (st:Bool) (S:List Ob):callD E (dcall E n) st S 106 [.str s,.int .i64 l,.int .i64 m]=some (.bool (codeS s l m),S):=by
 obtain⟨q,rfl⟩:∃q,n=q+1:=⟨n-1,by omega⟩
 exact callD_pure rfl rfl (eq_of_wo (Code_d (by omega) hz)) rfl
set_option maxHeartbeats 16000000 in
set_option maxRecDepth 100000 in
theorem ckab_c {n k0 m2:Nat} {y:Cab} {p:ByteArray} {S:List Ob} {ps:List (D×D)} {seen:List ByteArray} (hn:200≤n) (hp:p.size≤100) (h0:S[k0]? =some (.row 2 [[.nils,.str p]])) (h2:S[m2]? =some (.map kS ps)) (hs:SetIs ps seen) (hg:CabGood y seen) (hcz:∀z∈y.cls,z.code.size≤9223372036854775807):
  ∃T ps' p',callD E (dcall E n) false S 107 [.loc k0 0 0,.agg y.enc,.map m2]=some (.tup [],T)∧T[k0]? =some (.row 2 [[.nils,.str p']])∧T[m2]? =some (.map kS ps')∧SetIs ps' (seen++y.cls.map (·.code))∧(∀(j:Nat) (ob:Ob),j≠k0→j≠m2→S[j]? =some ob→T[j]? =some ob):=by
 obtain⟨m,rfl⟩:∃m,n=m+1:=⟨n-1,by omega⟩
 have hne:k0≠m2:=by rintro rfl;rw[h0]at h2;cases h2
 have hrng:=hg.rng
 simp only[rngB,Bool.and_eq_true,decide_eq_true_eq]at hrng
 obtain⟨⟨⟨r1,r2⟩,r3⟩,r4⟩:=hrng
 have q1:¬y.seats<1:=by omega
 have q2:¬(999:Int)<y.seats:=by omega
 have q3:¬y.over<0:=by omega
 have q4:¬(999:Int)<y.over:=by omega
 have q5:=hg.l1
 have q6:=hg.l2
 have ca:=Auth_c (n:=m) (by omega) (y:=y) (by omega) (by omega) (by omega) (by omega)
 have a0:=fun k e=>add0_c (n:=m) (k:=k) (e:=e) (by omega)
 have hl26:y.cls.length≤26:=by omega
 have h0x:(S++[cabR y])[k0]? =some (.row 2 [[.nils,.str p]]):=get_old h0
 have hk0S:=lt_of_get h0
 have hm2S:=lt_of_get h2
 have:WO (dcall E (m+1) 107 [.loc k0 0 0,.agg y.enc,.map m2] S) fun d T=>d=.tup []∧∃ps' p',T[k0]? =some (.row 2 [[.nils,.str p']])∧T[m2]? =some (.map kS ps')∧SetIs ps' (seen++y.cls.map (·.code))∧(∀(j:Nat) (ob:Ob),j≠k0→j≠m2→S[j]? =some ob→T[j]? =some ob):=by
  have g0:=h0
  have g2:=h2
  clear h0 h2
  refine wo_dcall Tryz.func107 rfl (by decide) rfl 111 rfl (fun a hal ha=>?_)
  have h0:a[0]? =some (.loc k0 0 0):=ha 0 (by simp)
  have h1:a[1]? =some (.agg y.enc):=ha 1 (by simp)
  have h2:a[2]? =some (.map m2):=ha 2 (by simp)
  clear ha
  simp only[Cab.enc]at h1 ca
  simp(maxSteps:=1000000)(disch:=omega)only[push_cast,gt_iff_lt,ne_eq,hal,h0,h1,get_end,h0x,a0,q1,q2,q3,q4,q5,q6,↓WX,simprocAttr]
  refine wl_loop (fun j a T=>a.length=111∧a[0]? =some (.loc k0 0 0)∧a[2]? =some (.map m2)∧a[4]? =some (.loc S.length 0 0)∧a[6]? =some (.str p)∧a[7]? =some (.bool false)∧a[48]? =some (.sl 2 (y.cls.map Cls.enc) y.clsx)∧a[49]? =some (.int .i64 y.cls.length)∧a[50]? =some (.int .i64 j)∧(∃ps' p',T[k0]? =some (.row 2 [[.nils,.str p']])∧T[m2]? =some (.map kS ps')∧SetIs ps' (seen++(y.cls.take j).map (·.code)))∧T[S.length]? =some (cabR y)∧(∀(j:Nat) (ob:Ob),j≠k0→j≠m2→S[j]? =some ob→T[j]? =some ob)) y.cls.length ?_ (by omega) ?_
  ·simp(maxSteps:=1000000)(disch:=omega)only[push_cast,ne_eq,hal,h0,h2,Int.natCast_zero,simprocAttr]
   exact⟨⟨ps,p,h0x,get_old g2,by simpa using hs⟩,get_end,fun j ob _ _ hj=>get_old hj⟩
  clear hal h0 h1 h2 a
  rintro j a T hj ⟨hal,h0,h2,h4,h6,h7,h48,h49,h50,⟨ps',p',t0,t2,hs'⟩,tb,hkp⟩
  rcases Nat.lt_or_eq_of_le hj with hlt |rfl
  case inr=>
   rw[List.take_length]at hs'
   simp(maxSteps:=1000000)(disch:=omega)only[push_cast,ne_eq,hal,h49,h50,Nat.lt_irrefl,Tryz.f107,↓WX,simprocAttr]
   exact⟨ps',p',t0,t2,hs',hkp⟩
  obtain⟨z,hz⟩:∃z,y.cls[j]? =some z:=⟨y.cls[j],by simp⟩
  obtain⟨c1,c2,c3⟩:=hg.cls j z hz
  have hzz:=hcz z (List.mem_of_getElem? hz)
  have ko:=keyOk_str hzz
  have ks:=keys_str
  have cc:=class_c (n:=m) (by omega) z.code
  rw[c1]at cc
  have cd:=dec2_c (n:=m) (by omega) (i:=j) (by omega)
  have hd:=dec2_size j
  have hw7:(ByteArray.mk #[32,99,108,97,115,115,32]).size=7:=rfl
  have m1:¬IntKind.i64.max<(p.size:Int)+((ByteArray.mk #[32,99,108,97,115,115,32]).size:Int):=by
   show ¬(9223372036854775807:Int)<_
   rw[hw7];omega
  have m2':¬IntKind.i64.max<((p++ByteArray.mk #[32,99,108,97,115,115,32]).size:Int)+((dec2 j).size:Int):=by
   show ¬(9223372036854775807:Int)<_
   rw[ByteArray.size_append,hw7];omega
  have hlk:=look_set hs' c2
  have hput:=hs'.put z.code
  have hst:seen++(y.cls.take j).map (·.code)++[z.code]=seen++(y.cls.take (j+1)).map (·.code):=by
   rw[List.take_add_one,hz,List.map_append,List.append_assoc];rfl
  rw[hst]at hput
  have k0T:=lt_of_get t0
  have m2T:=lt_of_get t2
  have bT:=lt_of_get tb
  have n1:S.length≠k0:=by omega
  have n2:S.length≠m2:=by omega
  have n3:m2≠k0:=fun e=>hne e.symm
  have n4:T.length≠k0:=by omega
  have n5:T.length≠m2:=by omega
  obtain⟨U,hU⟩:∃U,U=(T++[Ob.row 2 [[.str z.code,.int .i64 z.prot]]]).set k0 (.row 2 [[.nils,.str (clsS p j)]]):=⟨_,rfl⟩
  have hat:p++ByteArray.mk #[32,99,108,97,115,115,32]++dec2 j=clsS p j:=rfl
  have hTp:∀ob:Ob,(T++[ob])[k0]? =some (.row 2 [[.nils,.str p']]):=fun ob=>get_old t0
  have hU0:U[k0]? =some (.row 2 [[.nils,.str (clsS p j)]]):=by
   rw[hU];exact List.getElem?_set_self (by rw[List.length_append];omega)
  have hU2:U[m2]? =some (.map kS ps'):=by
   rw[hU,List.getElem?_set_ne hne];exact get_old t2
  have hUb:U[S.length]? =some (cabR y):=by
   rw[hU,List.getElem?_set_ne (Ne.symm n1)];exact get_old tb
  have hUz:U[T.length]? =some (.row 2 [[.str z.code,.int .i64 z.prot]]):=by
   rw[hU,List.getElem?_set_ne (Ne.symm n4)];exact get_end
  have hUk:∀(j:Nat) (ob:Ob),j≠k0→j≠m2→S[j]? =some ob→U[j]? =some ob:=fun j ob e1 e2 hj=>by
   rw[hU,List.getElem?_set_ne (Ne.symm e1)];exact get_old (hkp j ob e1 e2 hj)
  have hUl:m2<U.length:=lt_of_get hU2
  obtain⟨V,hV⟩:∃V,V=U.set m2 (.map kS (putM ps' (.str z.code) (.bool true))):=⟨_,rfl⟩
  have hV0:V[k0]? =some (.row 2 [[.nils,.str (clsS p j)]]):=by rw[hV,List.getElem?_set_ne n3];exact hU0
  have hV2:V[m2]? =some (.map kS (putM ps' (.str z.code) (.bool true))):=by rw[hV];exact List.getElem?_set_self hUl
  have hVb:V[S.length]? =some (cabR y):=by rw[hV,List.getElem?_set_ne (Ne.symm n2)];exact hUb
  have hVz:V[T.length]? =some (.row 2 [[.str z.code,.int .i64 z.prot]]):=by rw[hV,List.getElem?_set_ne (Ne.symm n5)];exact hUz
  have hVk:∀(j:Nat) (ob:Ob),j≠k0→j≠m2→S[j]? =some ob→V[j]? =some ob:=fun j ob e1 e2 hj=>by
   rw[hV,List.getElem?_set_ne (Ne.symm e2)];exact hUk j ob e1 e2 hj
  simp only[protB,hg.rng,Bool.true_and,Bool.or_eq_false_iff,decide_eq_false_iff_not]at c3
  obtain⟨⟨c31,c32⟩,c33⟩:=c3
  by_cases hj0:j=0
  ·have e1:¬(0:Int)<j:=by omega
   simp(maxSteps:=1000000)(disch:=omega)only[push_cast,gt_iff_lt,ne_eq,hal,h0,h2,h4,h6,h7,h48,h49,h50,hlt,hz,set_end,get_end,hTp,cd,m1,m2',hat,←hU,hU2,hUz,cc,a0,hlk,ko,ks,←hV,hV0,hV2,hVb,hVz,ca,c31,c33,e1,dUn,Bool.not_true,Cls.enc,wrap_ok,Int.natCast_add,Int.natCast_one,↓WX,simprocAttr]
   exact⟨⟨_,_,rfl,rfl,hput⟩,hVk⟩
  ·have e1:(0:Int)<j:=by omega
   have e2:((j:Int)-1).toNat=j-1:=by omega
   have e3:(0:Int)≤(j:Int)-1:=by omega
   obtain⟨z',hz'⟩:∃z',y.cls[j-1]? =some z':=⟨y.cls[j-1]'(by omega),by simp⟩
   have e4:¬z.prot<z'.prot:=by
    rw[hz']at c32
    simp only[Option.map_some,Option.getD_some,Bool.and_eq_false_iff,decide_eq_false_iff_not]at c32
    omega
   simp(maxSteps:=1000000)(disch:=omega)only[push_cast,gt_iff_lt,ne_eq,hal,h0,h2,h4,h6,h7,h48,h49,h50,hlt,hz,hz',set_end,get_end,hTp,cd,m1,m2',hat,←hU,hU2,hUz,cc,a0,hlk,ko,ks,←hV,hV0,hV2,hVb,hVz,ca,c31,c33,e1,e2,e3,e4,dUn,Bool.not_true,Cls.enc,wrap_ok,Int.natCast_add,Int.natCast_one,↓WX,simprocAttr]
   exact⟨⟨_,_,rfl,rfl,hput⟩,hVk⟩
 obtain⟨d,T,ho,rfl,ps',p',e1,e2,e3,e4⟩:=this
 exact⟨T,ps',p',(callD_own rfl (by simp[pureL_cons,D.pure])).trans ho,e1,e2,e3,e4⟩
theorem mxs {a b:ByteArray} (h:a.size+b.size≤1000):¬IntKind.i64.max<(a.size:Int)+(b.size:Int):=by
 show ¬(9223372036854775807:Int)<_
 omega
theorem cnf_size (i:Nat):(cnfS i).size≤9:=by
 have:=dec2_size i
 have h:(ByteArray.mk #[99,111,110,102,105,103,32]).size=7:=rfl
 unfold cnfS
 rw[ByteArray.size_append,h];omega
theorem set_get0 {S:List Ob} {x y:Ob} {k:Nat} (hk:k<S.length):((S++[x]).set k y)[k]? =some y:=List.getElem?_set_self (by rw[List.length_append];omega)
set_option maxHeartbeats 16000000 in
set_option maxRecDepth 100000 in
theorem Check_good {n:Nat} {l:List Cfg} {lx:Bool} (hn:300≤n) (hl:l.length≤30) (hg:∀(i:Nat) (x:Cfg),l[i]? =some x→CfgGood x∧inB x.equip ((l.take i).map (·.equip))=false)
  (hz:∀c∈l,c.equip.size+20<n∧c.equip.size≤9223372036854775807∧∀y∈c.cabs,y.name.size+20<n∧y.name.size≤9223372036854775807∧∀z∈y.cls,z.code.size≤9223372036854775807):
  WO (dcall E (n+1) 48 [.sl 2 (l.map Cfg.enc) lx] []) fun d T=>d=.nils:=by
 have a0:=fun k e=>add0_c (n:=n) (k:=k) (e:=e) (by omega)
 have ks:=keys_str
 refine wo_dcall Tryz.func48 rfl (by decide) rfl 85 rfl (fun a hal ha=>?_)
 have h0:a[0]? =some (.sl 2 (l.map Cfg.enc) lx):=ha 0 (by simp)
 clear ha
 simp(maxSteps:=1000000)(disch:=omega)only[push_cast,hal,h0,↓WX,simprocAttr]
 refine wl_loop (fun i a T=>a.length=85∧a[3]? =some (.loc 0 0 0)∧a[4]? =some (.map 1)∧a[13]? =some (.sl 2 (l.map Cfg.enc) lx)∧a[14]? =some (.int .i64 l.length)∧a[15]? =some (.int .i64 i)∧∃p ps,T[0]? =some (.row 2 [[.nils,.str p]])∧T[1]? =some (.map kS ps)∧SetIs ps ((l.take i).map (·.equip))) l.length ?_ (by omega) ?_
 ·simp(maxSteps:=1000000)(disch:=omega)only[push_cast,hal,Int.natCast_zero,simprocAttr]
  exact⟨_,_,rfl,rfl,SetIs.nil⟩
 clear hal h0 a
 rintro i a T hi ⟨hal,h3,h4,h13,h14,h15,p,ps,t0,t1,hs⟩
 rcases Nat.lt_or_eq_of_le hi with hlt |rfl
 case inr=>
  simp(maxSteps:=1000000)(disch:=omega)only[push_cast,hal,h3,h14,h15,Nat.lt_irrefl,t0,Tryz.f48,↓WX,simprocAttr]
 obtain⟨x,hx⟩:∃x,l[i]? =some x:=⟨l[i],by simp⟩
 have hxm:=List.mem_of_getElem? hx
 obtain⟨gx,gi⟩:=hg i x hx
 obtain⟨z1,z2,z3⟩:=hz x hxm
 have l1:=gx.l1
 have l2:=gx.l2
 have hl4:x.cabs.length≤4:=by omega
 have cd:=dec2_c (n:=n) (by omega) (i:=i) (by omega)
 have hd:=dec2_size i
 have hw7:(ByteArray.mk #[99,111,110,102,105,103,32]).size=7:=rfl
 have m1:=mxs (a:=ByteArray.mk #[99,111,110,102,105,103,32]) (b:=dec2 i) (by rw[hw7];omega)
 have hat:ByteArray.mk #[99,111,110,102,105,103,32]++dec2 i=cnfS i:=rfl
 have cc:=code38 (n:=n) (s:=x.equip) (l:=3) (m:=3) (by omega) z2
 rw[gx.eq]at cc
 have ko:=keyOk_str z2
 have hlk:=look_set hs gi
 have hput:=hs.put x.equip
 have hst:(l.take i).map (·.equip)++[x.equip]=(l.take (i+1)).map (·.equip):=by
  rw[List.take_add_one,hx,List.map_append];rfl
 rw[hst]at hput
 have l0T:=lt_of_get t0
 have l1T:=lt_of_get t1
 have n4:T.length≠0:=by omega
 have n5:T.length≠1:=by omega
 have hTp:∀ob:Ob,(T++[ob])[0]? =some (.row 2 [[.nils,.str p]]):=fun ob=>get_old t0
 obtain⟨U,hU⟩:∃U,U=(T++[Ob.row 2 [[.str x.equip,.sl 4 (x.cabs.map Cab.enc) x.cabsx]]]).set 0 (.row 2 [[.nils,.str (cnfS i)]]):=⟨_,rfl⟩
 have hU0:U[0]? =some (.row 2 [[.nils,.str (cnfS i)]]):=by rw[hU];exact set_get0 l0T
 have hU1:U[1]? =some (.map kS ps):=by rw[hU,List.getElem?_set_ne (by decide)];exact get_old t1
 have hUx:U[T.length]? =some (.row 2 [[.str x.equip,.sl 4 (x.cabs.map Cab.enc) x.cabsx]]):=by rw[hU,List.getElem?_set_ne (Ne.symm n4)];exact get_end
 have hUl:1<U.length:=lt_of_get hU1
 obtain⟨V,hV⟩:∃V,V=U.set 1 (.map kS (putM ps (.str x.equip) (.bool true))):=⟨_,rfl⟩
 have hV0:V[0]? =some (.row 2 [[.nils,.str (cnfS i)]]):=by rw[hV,List.getElem?_set_ne (by decide)];exact hU0
 have hV1:V[1]? =some (.map kS (putM ps (.str x.equip) (.bool true))):=by rw[hV];exact List.getElem?_set_self hUl
 have hVx:V[T.length]? =some (.row 2 [[.str x.equip,.sl 4 (x.cabs.map Cab.enc) x.cabsx]]):=by rw[hV,List.getElem?_set_ne (Ne.symm n5)];exact hUx
 have hVx2:∀o1 o2:Ob,(V++[o1]++[o2])[T.length]? =some (.row 2 [[.str x.equip,.sl 4 (x.cabs.map Cab.enc) x.cabsx]]):=fun o1 o2=>get_old (get_old hVx)
 have hVl:1<V.length:=lt_of_get hV1
 simp(maxSteps:=1000000)(disch:=omega)only[push_cast,gt_iff_lt,hal,h3,h4,h13,h14,h15,hlt,hx,set_end,get_end,hTp,cd,m1,hat,←hU,hU1,hUx,cc,a0,hlk,ko,ks,l1,l2,←hV,hVx2,dUn,Bool.not_true,Cfg.enc,↓WX,simprocAttr]
 refine wl_loop (fun k a W=>a.length=85∧a[3]? =some (.loc 0 0 0)∧a[4]? =some (.map 1)∧a[7]? =some (.str (cnfS i))∧a[8]? =some (.map V.length)∧a[9]? =some (.map (V++[Ob.map kS []]).length)∧a[13]? =some (.sl 2 (l.map Cfg.enc) lx)∧a[14]? =some (.int .i64 l.length)∧a[15]? =some (.int .i64 i)∧a[52]? =some (.sl 4 (x.cabs.map Cab.enc) x.cabsx)∧a[53]? =some (.int .i64 x.cabs.length)∧a[54]? =some (.int .i64 k)∧∃p' ns cs,W[0]? =some (.row 2 [[.nils,.str p']])∧W[1]? =some (.map kS (putM ps (.str x.equip) (.bool true)))∧W[V.length]? =some (.map kS ns)∧SetIs ns ((x.cabs.take k).map (·.name))∧W[(V++[Ob.map kS []]).length]? =some (.map kS cs)∧SetIs cs (codes (x.cabs.take k))) x.cabs.length ?_ (by omega) ?_
 ·simp(maxSteps:=1000000)(disch:=omega)only[push_cast,hal,h3,h4,h13,h14,h15,Int.natCast_zero,simprocAttr]
  exact⟨_,_,_,get_old (get_old hV0),get_old (get_old hV1),get_old get_end,SetIs.nil,get_end,SetIs.nil⟩
 clear hal h3 h4 h13 h14 h15 a
 have hN9:(V++[Ob.map kS []]).length=V.length+1:=by simp
 generalize (V++[Ob.map kS []]).length=N9 at*
 generalize V.length=N8 at*
 rintro k a W hk ⟨hal,h3,h4,h7,h8,h9,h13,h14,h15,h52,h53,h54,p',ns,cs,w0,w1,w8,hns,w9,hcs⟩
 rcases Nat.lt_or_eq_of_le hk with hlk' |rfl
 case inr=>
  simp(maxSteps:=1000000)(disch:=omega)only[push_cast,hal,h3,h4,h13,h14,h15,h53,h54,Nat.lt_irrefl,hlt,wrap_ok,Int.natCast_add,Int.natCast_one,↓WX,simprocAttr]
  exact⟨_,_,w0,w1,hput⟩
 obtain⟨y,hy⟩:∃y,x.cabs[k]? =some y:=⟨x.cabs[k],by simp⟩
 have hym:=List.mem_of_getElem? hy
 obtain⟨gy,gn⟩:=gx.cab k y hy
 obtain⟨z4,z5,z6⟩:=z3 y hym
 have cdk:=dec2_c (n:=n) (by omega) (i:=k) (by omega)
 have hdk:=dec2_size k
 have hcz:=cnf_size i
 have hw7b:(ByteArray.mk #[32,99,97,98,105,110,32]).size=7:=rfl
 have m2:=mxs (a:=cnfS i) (b:=ByteArray.mk #[32,99,97,98,105,110,32]) (by rw[hw7b];omega)
 have m3:=mxs (a:=cnfS i++ByteArray.mk #[32,99,97,98,105,110,32]) (b:=dec2 k) (by rw[ByteArray.size_append,hw7b];omega)
 have hat2:cnfS i++ByteArray.mk #[32,99,97,98,105,110,32]++dec2 k=cbnS (cnfS i) k:=rfl
 have hbz:(cbnS (cnfS i) k).size≤100:=by
  unfold cbnS
  rw[ByteArray.size_append,ByteArray.size_append,hw7b];omega
 have ccn:=code38 (n:=n) (s:=y.name) (l:=1) (m:=8) (by omega) z5
 rw[gy.nm]at ccn
 have kon:=keyOk_str z5
 have hlkn:=look_set hns gn
 have hputn:=hns.put y.name
 have hstn:(x.cabs.take k).map (·.name)++[y.name]=(x.cabs.take (k+1)).map (·.name):=by
  rw[List.take_add_one,hy,List.map_append];rfl
 rw[hstn]at hputn
 have b0:=lt_of_get w0
 have b1:=lt_of_get w1
 have b8:=lt_of_get w8
 have b9:=lt_of_get w9
 have hWp:∀ob:Ob,(W++[ob])[0]? =some (.row 2 [[.nils,.str p']]):=fun ob=>get_old w0
 obtain⟨X,hX⟩:∃X,X=(W++[cabR y]).set 0 (.row 2 [[.nils,.str (cbnS (cnfS i) k)]]):=⟨_,rfl⟩
 have x0:X[0]? =some (.row 2 [[.nils,.str (cbnS (cnfS i) k)]]):=by rw[hX];exact set_get0 b0
 have x1:X[1]? =some (.map kS (putM ps (.str x.equip) (.bool true))):=by rw[hX,List.getElem?_set_ne (by decide)];exact get_old w1
 have x8:X[N8]? =some (.map kS ns):=by rw[hX,List.getElem?_set_ne (by omega)];exact get_old w8
 have x9:X[N9]? =some (.map kS cs):=by rw[hX,List.getElem?_set_ne (by omega)];exact get_old w9
 have xb:X[W.length]? =some (cabR y):=by rw[hX,List.getElem?_set_ne (by omega)];exact get_end
 have bx:=lt_of_get x8
 obtain⟨Y,hY⟩:∃Y,Y=X.set N8 (.map kS (putM ns (.str y.name) (.bool true))):=⟨_,rfl⟩
 have y0:Y[0]? =some (.row 2 [[.nils,.str (cbnS (cnfS i) k)]]):=by rw[hY,List.getElem?_set_ne (by omega)];exact x0
 have y1:Y[1]? =some (.map kS (putM ps (.str x.equip) (.bool true))):=by rw[hY,List.getElem?_set_ne (by omega)];exact x1
 have y8:Y[N8]? =some (.map kS (putM ns (.str y.name) (.bool true))):=by rw[hY];exact List.getElem?_set_self bx
 have y9:Y[N9]? =some (.map kS cs):=by rw[hY,List.getElem?_set_ne (by omega)];exact x9
 have yb:Y[W.length]? =some (cabR y):=by rw[hY,List.getElem?_set_ne (by omega)];exact xb
 obtain⟨T',cs',p'',ck,e0,e9,hcs',hkp⟩:=ckab_c (n:=n) (by omega) hbz y0 y9 hcs gy z6
 rw[←codes_take_succ hy]at hcs'
 have e1:=hkp 1 _ (by decide) (by omega) y1
 have e8:=hkp N8 _ (by omega) (by omega) y8
 simp only[Cab.enc]at ck
 simp(maxSteps:=1000000)(disch:=omega)only[push_cast,gt_iff_lt,hal,h3,h4,h7,h8,h9,h13,h14,h15,h52,h53,h54,hlk',hy,set_end,get_end,hWp,cdk,m2,m3,hat2,←hX,x8,xb,ccn,a0,hlkn,kon,ks,←hY,yb,ck,dUn,Bool.not_true,Cab.enc,wrap_ok,Int.natCast_add,Int.natCast_one,↓WX,simprocAttr]
 exact⟨_,_,_,e0,e1,e8,hputn,e9,hcs'⟩
theorem Check_good_c {n:Nat} {l:List Cfg} {lx:Bool} (hn:310≤n) (hl:l.length≤30) (hg:∀(i:Nat) (x:Cfg),l[i]? =some x→CfgGood x∧inB x.equip ((l.take i).map (·.equip))=false)
  (hz:∀c∈l,c.equip.size+21<n∧c.equip.size≤9223372036854775807∧∀y∈c.cabs,y.name.size+21<n∧y.name.size≤9223372036854775807∧∀z∈y.cls,z.code.size≤9223372036854775807) (st:Bool) (S:List Ob):
  callD E (dcall E n) st S 48 [.sl 2 (l.map Cfg.enc) lx]=some (.nils,S):=by
 obtain⟨m,rfl⟩:∃m,n=m+1:=⟨n-1,by omega⟩
 obtain⟨d,T,ho,rfl⟩:=Check_good (n:=m) (lx:=lx) (by omega) hl hg (fun c hc=>by
  obtain⟨a1,a2,a3⟩:=hz c hc
  exact⟨by omega,a2,fun y hy=>by
   obtain⟨b1,b2,b3⟩:=a3 y hy
   exact⟨by omega,b2,b3⟩⟩)
 exact callD_pure rfl (by simp[pureL_cons,pureL_nil,D.pure,Cfgs_pure]) ho rfl
end Go.Proofs.YtkemehicndccmaaGreatDoor.Dm
