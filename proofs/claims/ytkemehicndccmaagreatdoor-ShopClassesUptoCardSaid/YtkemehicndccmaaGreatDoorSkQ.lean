/-
  The machine at the reference's violations of configurations.
  The machine at the reference's violations of configurations: cabins, and all.
-/
import Derived.Test.YtkemehicndccmaaGreatDoorSkK
import Derived.Test.YtkemehicndccmaaGreatDoorSkR
set_option linter.unusedSimpArgs false
set_option linter.unusedVariables false
namespace Go.Proofs.YtkemehicndccmaaGreatDoor.Dm
open Go Gw
set_option linter.unusedSimpArgs false
set_option linter.unusedSimpArgs false

/-! ### Appends of violations -/
theorem sz_fault:sizeT Tryz.prog 104=some 2:=by kernel_rfl
theorem ze_fault:zeroT Tryz.prog 104=some (.agg [.int .i64 0,.str (ByteArray.mk #[])]):=by kernel_rfl
theorem by_fault24:bytesT Tryz.prog 104=24:=by kernel_rfl
def FaultOb (o:Ob):Prop:=∃fs:List (Int×ByteArray),o=.row 2 (fs.map encF)
def KeepF (T T':List Ob):Prop:=∀(j:Nat) (ob:Ob),¬FaultOb ob→T[j]? =some ob→T'[j]? =some ob
theorem KeepF.refl {T:List Ob}:KeepF T T:=fun _ _ _ h=>h
theorem KeepF.trans {T U V:List Ob} (h:KeepF T U) (g:KeepF U V):KeepF T V:=fun j ob n hj=>g j ob n (h j ob n hj)
theorem KeepF.push {T:List Ob} {o:Ob}:KeepF T (T++[o]):=fun _ _ _ h=>get_old h
theorem not_fault2 {s:ByteArray} {d:D}:¬FaultOb (.row 2 [[.str s,d]]):=by
 rintro⟨fs,h⟩
 injection h with _ h
 cases fs with
 |nil=>cases h
 |cons f fs=>
  rw[List.map_cons]at h
  injection h with h _
  simp[encF]at h
theorem not_fault4 {a b c d:D}:¬FaultOb (.row 4 [[a,b,c,d]]):=by
 rintro⟨fs,h⟩
 injection h with h
 omega
theorem app_if {T:List Ob} {d:D} {fs:List (Int×ByteArray)} (h:GL 2 encF T d fs) (hl:fs.length≤5000000000000) (b:Bool) (e:Int) (s:ByteArray):
  ∃d' T',(b=true→dAppend Tryz.prog T 66 66 d (.sl 2 [[.int .i64 e,.str s]] true)=some (d',T'))∧(b=false→d'=d∧T'=T)∧GL 2 encF T' d' (fs++ifF b e s)∧KeepF T T':=by
 cases b
 ·exact⟨d,T,(fun h=>by cases h),fun _=>⟨rfl,rfl⟩,by rw[ifF,if_neg (by simp),List.append_nil];exact h,KeepF.refl⟩
 ·obtain⟨S',h1,h2,h3,h4,h5⟩:=app_glB el_fault sz_fault ze_fault rfl (by rw[by_fault24];omega) (by unfold maxLen;omega) h (e,s)
  refine⟨_,S',fun _=>h1,(fun h=>by cases h),by rw[ifF,if_pos rfl];exact h2,fun j ob hn hj=>h4 j ob (fun n e=>?_) hj⟩
  rcases h with ⟨e',-⟩ | ⟨k,e',hk⟩
  ·rw[e]at e';cases e'
  ·rw[e]at e'
   cases e'
   rw[hk]at hj
   exact hn ⟨fs,(Option.some.inj hj).symm⟩
theorem app_fls {T:List Ob} {d x:D} {fs gs:List (Int×ByteArray)} (h:GL 2 encF T d fs) (hx:FLs 2 encF x gs) (hl:fs.length+gs.length≤5000000000000):
  ∃d' T',dAppend Tryz.prog T 66 66 d x=some (d',T')∧GL 2 encF T' d' (fs++gs)∧KeepF T T':=by
 have hb:bytesT Tryz.prog 104=24:=by kernel_rfl
 have hsrc:srcOf T (1+1) x=some (gs.map encF):=by
  rcases hx with ⟨rfl,rfl⟩ | ⟨y,rfl⟩
  ·rfl
  ·simp[srcOf]
 have hold:srcOf T (1+1) d=some (fs.map encF):=by
  rcases h with ⟨rfl,rfl⟩ | ⟨k,rfl,hk⟩
  ·rfl
  ·have:(List.map encF fs).take fs.length=List.map encF fs:=List.take_of_length_le (by simp)
   simp[srcOf,hk,this]
 by_cases hg:gs=[]
 ·subst hg
  refine⟨d,T,?_,by rw[List.append_nil];exact h,KeepF.refl⟩
  unfold dAppend
  rw[if_pos rfl,el_fault]
  dsimp only
  rw[sz_fault,ze_fault]
  dsimp only
  rw[if_pos (show (D.agg [D.int IntKind.i64 0,D.str (ByteArray.mk #[])]).cells.length=1+1 from rfl),hold,hsrc]
  simp
 ·have hgl:¬(gs.map encF).length=0:=by
   rw[List.length_map]
   exact fun e=>hg (List.eq_nil_of_length_eq_zero e)
  have hm:(fs.map encF).length+(gs.map encF).length≤maxLen∧((fs.map encF).length+(gs.map encF).length)*24≤140737488355328:=by
   simp only[List.length_map,maxLen];omega
  rcases h with ⟨rfl,rfl⟩ | ⟨k,rfl,hk⟩
  ·refine⟨.os T.length 0 gs.length false,T++[.row 2 (gs.map encF)],?_,.inr ⟨T.length,rfl,get_end⟩,KeepF.push⟩
   unfold dAppend
   rw[if_pos rfl,el_fault]
   dsimp only
   rw[sz_fault,ze_fault]
   dsimp only
   rw[if_pos (show (D.agg [D.int IntKind.i64 0,D.str (ByteArray.mk #[])]).cells.length=1+1 from rfl),hold,hsrc]
   dsimp only
   rw[if_neg hgl,hb,if_pos hm,List.length_map]
  ·refine⟨.os T.length 0 (fs++gs).length false,T.set k .dead++[.row 2 ((fs++gs).map encF)],?_,.inr ⟨T.length,rfl,get_end'⟩,fun j ob hn hj=>?_⟩
   ·unfold dAppend
    rw[if_pos rfl,el_fault]
    dsimp only
    rw[sz_fault,ze_fault]
    dsimp only
    rw[if_pos (show (D.agg [D.int IntKind.i64 0,D.str (ByteArray.mk #[])]).cells.length=1+1 from rfl),hold,hsrc]
    dsimp only
    rw[if_neg hgl,hb,if_pos hm]
    simp[hk]
   ·refine get_old ?_
    rw[List.getElem?_set_ne]
    ·exact hj
    ·rintro rfl
     rw[hk]at hj
     exact hn ⟨fs,(Option.some.inj hj).symm⟩

/-! ### Texts and numbers -/
theorem ba_assoc (a b c:ByteArray):a++b++c=a++(b++c):=ByteArray.append_assoc
theorem ba_len (a b:ByteArray):(a++b).size=a.size+b.size:=ByteArray.size_append
theorem mx_of {a b:ByteArray} (h:a.size+b.size≤1000):¬IntKind.i64.max<(a.size:Int)+(b.size:Int):=by
 show ¬(9223372036854775807:Int)<_
 omega
theorem placeC_c {n i:Nat} (hn:50≤n) (hi:i<100) (st:Bool) (S:List Ob):callD E (dcall E n) st S 39 [.str (ByteArray.mk #[]),.str (ByteArray.mk #[99,111,110,102,105,103]),.int .i64 i]=some (.str (cnfS i),S):=by
 obtain⟨m,rfl⟩:∃m,n=m+1:=⟨n-1,by omega⟩
 have cd:=rdec2_c (n:=m) (by omega) hi
 have hd:=dec2_size i
 have:WO (dcall E (m+1) 39 [.str (ByteArray.mk #[]),.str (ByteArray.mk #[99,111,110,102,105,103]),.int .i64 i] []) fun d T=>d=.str (cnfS i):=by
  have e1:(ByteArray.mk #[])++(ByteArray.mk #[99,111,110,102,105,103])=ByteArray.mk #[99,111,110,102,105,103]:=rfl
  have e2:(ByteArray.mk #[99,111,110,102,105,103])++(ByteArray.mk #[32])=ByteArray.mk #[99,111,110,102,105,103,32]:=rfl
  have m1:=mx_of (a:=ByteArray.mk #[]) (b:=ByteArray.mk #[99,111,110,102,105,103]) (by decide)
  have m2:=mx_of (a:=ByteArray.mk #[99,111,110,102,105,103]) (b:=ByteArray.mk #[32]) (by decide)
  have m3:=mx_of (a:=ByteArray.mk #[99,111,110,102,105,103,32]) (b:=dec2 i) (by
   have:(ByteArray.mk #[99,111,110,102,105,103,32]).size=7:=rfl
   omega)
  refine wo_dcall Tryz.func39 rfl (by decide) rfl 18 rfl (fun a hal ha=>?_)
  have h0:a[0]? =some (.str (ByteArray.mk #[])):=ha 0 (by simp)
  have h1:a[1]? =some (.str (ByteArray.mk #[99,111,110,102,105,103])):=ha 1 (by simp)
  have h2:a[2]? =some (.int .i64 i):=ha 2 (by simp)
  clear ha
  simp(maxSteps:=1000000)(disch:=omega)only[push_cast,gt_iff_lt,hal,h0,h1,h2,cd,str_eq,m1,m2,m3,e1,e2,cnfS,Tryz.f39,↓WX,simprocAttr]
 obtain⟨d,T,ho,rfl⟩:=this
 exact callD_pure rfl rfl ho rfl
theorem placeW_c {n i:Nat} {p w:ByteArray} (hn:50≤n) (hi:i<100) (hp:1≤p.size) (hp2:p.size≤100) (hw:w.size≤10) (st:Bool) (S:List Ob):callD E (dcall E n) st S 39 [.str p,.str w,.int .i64 i]=some (.str (p++ByteArray.mk #[32]++w++ByteArray.mk #[32]++dec2 i),S):=by
 obtain⟨m,rfl⟩:∃m,n=m+1:=⟨n-1,by omega⟩
 have cd:=rdec2_c (n:=m) (by omega) hi
 have hd:=dec2_size i
 have h1s:(ByteArray.mk #[32]).size=1:=rfl
 have:WO (dcall E (m+1) 39 [.str p,.str w,.int .i64 i] []) fun d T=>d=.str (p++ByteArray.mk #[32]++w++ByteArray.mk #[32]++dec2 i):=by
  have hne:¬p=ByteArray.mk #[]:=by
   rintro rfl
   exact absurd hp (by decide)
  have m1:=mx_of (a:=p) (b:=ByteArray.mk #[32]) (by omega)
  have m2:=mx_of (a:=p++ByteArray.mk #[32]) (b:=w) (by rw[ba_len];omega)
  have m3:=mx_of (a:=p++ByteArray.mk #[32]++w) (b:=ByteArray.mk #[32]) (by rw[ba_len,ba_len];omega)
  have m4:=mx_of (a:=p++ByteArray.mk #[32]++w++ByteArray.mk #[32]) (b:=dec2 i) (by rw[ba_len,ba_len,ba_len];omega)
  refine wo_dcall Tryz.func39 rfl (by decide) rfl 18 rfl (fun a hal ha=>?_)
  have h0:a[0]? =some (.str p):=ha 0 (by simp)
  have h1:a[1]? =some (.str w):=ha 1 (by simp)
  have h2:a[2]? =some (.int .i64 i):=ha 2 (by simp)
  clear ha
  simp(maxSteps:=1000000)(disch:=omega)only[push_cast,gt_iff_lt,hal,h0,h1,h2,cd,str_eq,hne,m1,m2,m3,m4,Tryz.f39,↓WX,simprocAttr]
 obtain⟨d,T,ho,rfl⟩:=this
 exact callD_pure rfl rfl ho rfl
theorem ba_words (p w:ByteArray) (d:ByteArray):p++ByteArray.mk #[32]++w++ByteArray.mk #[32]++d=p++(ByteArray.mk #[32]++w++ByteArray.mk #[32])++d:=by
 rw[ba_assoc p,ba_assoc p]
theorem placeB_c {n i:Nat} {p:ByteArray} (hn:50≤n) (hi:i<100) (hp:1≤p.size) (hp2:p.size≤100) (st:Bool) (S:List Ob):callD E (dcall E n) st S 39 [.str p,.str (ByteArray.mk #[99,97,98,105,110]),.int .i64 i]=some (.str (cbnS p i),S):=by
 rw[placeW_c hn hi hp hp2 (by decide),ba_words];rfl
theorem placeK_c {n i:Nat} {p:ByteArray} (hn:50≤n) (hi:i<100) (hp:1≤p.size) (hp2:p.size≤100) (st:Bool) (S:List Ob):callD E (dcall E n) st S 39 [.str p,.str (ByteArray.mk #[99,108,97,115,115]),.int .i64 i]=some (.str (clsS p i),S):=by
 rw[placeW_c hn hi hp hp2 (by decide),ba_words];rfl
theorem cnfS_size (i:Nat):1≤(cnfS i).size∧(cnfS i).size≤9:=by
 have:=dec2_size i
 have h:(ByteArray.mk #[99,111,110,102,105,103,32]).size=7:=rfl
 unfold cnfS
 rw[ba_len,h];omega
theorem cbnS_size {p:ByteArray} (i:Nat) (hp:p.size≤9):1≤(cbnS p i).size∧(cbnS p i).size≤18:=by
 have:=dec2_size i
 have h:(ByteArray.mk #[32,99,97,98,105,110,32]).size=7:=rfl
 unfold cbnS
 rw[ba_len,ba_len,h];omega
theorem rRng_c {n:Nat} (hn:1≤n) (y:Cab) (st:Bool) (S:List Ob):callD E (dcall E n) st S 94 [.agg y.enc]=some (.bool (rngB y),S):=by
 obtain⟨m,rfl⟩:∃m,n=m+1:=⟨n-1,by omega⟩
 have:WO (dcall E (m+1) 94 [.agg y.enc] []) fun d T=>d=.bool (rngB y):=by
  refine wo_dcall Tryz.func94 rfl (by decide) rfl 21 rfl (fun a hal ha=>?_)
  have h0:a[0]? =some (.agg y.enc):=ha 0 (by simp)
  clear ha
  simp only[Cab.enc]at h0
  unfold rngB
  by_cases b1:1≤y.seats <;> by_cases b2:y.seats≤999 <;> by_cases b3:0≤y.over <;> by_cases b4:y.over≤999 <;> simp(maxSteps:=1000000)(disch:=omega)only[push_cast,hal,h0,b1,b2,b3,b4,decide_true,decide_false,Bool.false_and,Bool.and_true,Bool.and_false,Tryz.f94,↓WX,simprocAttr]
 obtain⟨d,T,ho,rfl⟩:=this
 exact callD_pure rfl (by simp[pureL_cons,pureL_nil,D.pure,Cab_pure]) ho rfl

theorem lett_cls (s:ByteArray):lettS s 1=clsB s:=by
 unfold lettS clsB
 by_cases h:s.size=1
 ·rw[h]
  simp only[decide_true,Bool.true_and]
  obtain⟨b,hb⟩:=byte_at' (s:=s) (i:=0) (by omega)
  simp[evr,hb]
 ·rw[decide_eq_false h];rfl
theorem r01_class {n:Nat} {s:ByteArray} (hn:s.size+5<n) (hz:s.size≤9223372036854775807) (st:Bool) (S:List Ob):callD E (dcall E n) st S 97 [.str s]=some (.bool (clsB s),S):=by
 obtain⟨m,rfl⟩:∃m,n=m+2:=⟨n-2,by omega⟩
 have q:∀st S,callD E (dcall E (m+1)) st S 91 [.str s,.int .i64 1]=some (.bool (clsB s),S):=fun st S=>by
  rw[←lett_cls]
  exact callD_pure rfl rfl (eq_of_wo (letters_d (k:=1) (by omega) hz)) rfl
 have:WO (dcall E (m+2) 97 [.str s] []) fun d T=>d=.bool (clsB s)∧T=[]:=by
  refine wo_dcall Tryz.func97 rfl (by decide) rfl 5 rfl (fun a hal ha=>?_)
  have h0:a[0]? =some (.str s):=ha 0 (by simp)
  clear ha
  simp(maxSteps:=1000000)(disch:=omega)only[push_cast,hal,h0,q,Tryz.f97,↓WX,simprocAttr]
 exact callD_pure rfl rfl (eq_of_wo this) rfl

/-! ### Classes that occur before -/
theorem inB_code {cl:ByteArray} {l:List Cls} {j:Nat} {z:Cls} (hz:l[j]? =some z):inB cl ((l.take (j+1)).map (·.code))=(inB cl ((l.take j).map (·.code)) || decide (z.code=cl)):=by
 rw[List.take_add_one,hz,List.map_append,inB_app]
 congr 1
 exact inB_one cl z.code
set_option maxHeartbeats 4000000 in
set_option maxRecDepth 100000 in
theorem occurs_c {n k j:Nat} {c:Cfg} {y:Cab} {z:Cls} (hn:120≤n) (hc:Sm c) (hy:c.cabs[k]? =some y) (hz:y.cls[j]? =some z) (st:Bool) (S:List Ob):callD E (dcall E n) st S 122 [.agg c.enc,.int .i64 k,.int .i64 j]=some (.bool (inB z.code (codes (c.cabs.take k)++(y.cls.take j).map (·.code))),S):=by
 obtain⟨m,rfl⟩:∃m,n=m+1:=⟨n-1,by omega⟩
 have hl:=hc.cabs
 have hkl:k<c.cabs.length:=lt_of_get hy
 have hjl:j<y.cls.length:=lt_of_get hz
 have:WO (dcall E (m+1) 122 [.agg c.enc,.int .i64 k,.int .i64 j] []) fun d T=>d=.bool (inB z.code (codes (c.cabs.take k)++(y.cls.take j).map (·.code))):=by
  rw[inB_app]
  refine wo_dcall Tryz.func122 rfl (by decide) rfl 54 rfl (fun a hal ha=>?_)
  have h0:a[0]? =some (.agg c.enc):=ha 0 (by simp)
  have h1:a[1]? =some (.int .i64 k):=ha 1 (by simp)
  have h2:a[2]? =some (.int .i64 j):=ha 2 (by simp)
  clear ha
  simp only[Cfg.enc]at h0
  simp(maxSteps:=1000000)(disch:=omega)only[push_cast,h0,↓WX,simprocAttr]
  refine wl_loop (fun i a T=>T=[Ob.row 2 [[.str c.equip,.sl 4 (c.cabs.map Cab.enc) c.cabsx]]]∧a.length=54∧a[1]? =some (.int .i64 k)∧a[2]? =some (.int .i64 j)∧a[3]? =some (.loc 0 0 0)∧a[7]? =some (.int .i64 i)∧inB z.code (codes (c.cabs.take i))=false) k ?_ (by omega) ?_
  ·simp(maxSteps:=1000000)(disch:=omega)only[push_cast,hal,h1,h2,Int.natCast_zero,List.take_zero,codes,List.flatMap_nil,inB,simprocAttr]
  clear hal h0 h1 h2 a
  rintro i a T hi ⟨rfl,hal,h1,h2,h3,h7,hv⟩
  have hil:(i:Int)≤k:=by omega
  obtain⟨y',hy'⟩:∃y',c.cabs[i]? =some y':=⟨c.cabs[i]'(by omega),by simp⟩
  have hly:=hc.cls y' (List.mem_of_getElem? hy')
  simp(maxSteps:=1000000)(disch:=omega)only[push_cast,hal,h1,h7,hil,↓WX,simprocAttr]
  refine wl_loop (fun w a T=>T=[Ob.row 2 [[.str c.equip,.sl 4 (c.cabs.map Cab.enc) c.cabsx]]]∧a.length=54∧a[1]? =some (.int .i64 k)∧a[2]? =some (.int .i64 j)∧a[3]? =some (.loc 0 0 0)∧a[7]? =some (.int .i64 i)∧a[8]? =some (.int .i64 w)∧(i=k→w≤j)∧inB z.code ((y'.cls.take w).map (·.code))=false) y'.cls.length ?_ (by omega) ?_
  ·simp(maxSteps:=1000000)(disch:=omega)only[push_cast,hal,h1,h2,h3,h7,Int.natCast_zero,List.take_zero,List.map_nil,inB,Nat.zero_le,simprocAttr]
   exact fun _=>trivial
  clear hal h1 h2 h3 h7 a
  rintro w a T hw ⟨rfl,hal,h1,h2,h3,h7,h8,hwj,hvw⟩
  by_cases hik:i=k
  ·subst hik
   rw[hy]at hy'
   cases hy'
   have hwj:=hwj rfl
   have hwl:w<y.cls.length:=by omega
   by_cases hwe:w=j
   ·subst hwe
    simp(maxSteps:=1000000)(disch:=omega)only[push_cast,hal,h1,h2,h3,h7,h8,hwl,hy,Cab.enc,Tryz.f122,↓WX,simprocAttr]
    rw[hv,hvw];rfl
   ·have hwe':¬(w:Int)=j:=by omega
    obtain⟨z',hz'⟩:∃z',y.cls[w]? =some z':=⟨y.cls[w]'(by omega),by simp⟩
    have hst:=inB_code (cl:=z.code) hz'
    rw[hvw,Bool.false_or]at hst
    by_cases q:z'.code=z.code
    ·have hin:inB z.code ((y.cls.take j).map (·.code))=true:=inB_iff.2 (List.mem_map.2 ⟨z',List.mem_of_getElem? (i:=w) (by rw[List.getElem?_take_of_lt (by omega)];exact hz'),q⟩)
     simp(maxSteps:=1000000)(disch:=omega)only[push_cast,hal,h1,h2,h3,h7,h8,hwl,hwe',hy,hz,hz',q,str_eq,Cab.enc,Cls.enc,Tryz.f122,↓WX,simprocAttr]
     rw[hin,Bool.or_true]
    ·rw[decide_eq_false q]at hst
     simp(maxSteps:=1000000)(disch:=omega)only[push_cast,hal,h1,h2,h3,h7,h8,hwl,hwe',hy,hz,hz',q,str_eq,Cab.enc,Cls.enc,wrap_ok,Int.natCast_add,Int.natCast_one,↓WX,simprocAttr]
     exact⟨by omega,hst⟩
  ·have hik':¬(i:Int)=k:=by omega
   have hik2:i<k:=by omega
   rcases Nat.lt_or_eq_of_le hw with hwl |rfl
   case inr=>
    simp(maxSteps:=1000000)(disch:=omega)only[push_cast,hal,h1,h2,h3,h7,h8,Nat.lt_irrefl,hik2,hy',Cab.enc,wrap_ok,Int.natCast_add,Int.natCast_one,↓WX,simprocAttr]
    rw[codes_take_succ hy',inB_app,hv]
    rw[List.take_length]at hvw
    rw[hvw];rfl
   obtain⟨z',hz'⟩:∃z',y'.cls[w]? =some z':=⟨y'.cls[w]'(by omega),by simp⟩
   have hst:=inB_code (cl:=z.code) hz'
   rw[hvw,Bool.false_or]at hst
   by_cases q:z'.code=z.code
   ·have hin:inB z.code (codes (c.cabs.take k))=true:=inB_iff.2 (List.mem_flatMap.2 ⟨y',List.mem_of_getElem? (i:=i) (by rw[List.getElem?_take_of_lt hik2];exact hy'),List.mem_map.2 ⟨z',List.mem_of_getElem? hz',q⟩⟩)
    simp(maxSteps:=1000000)(disch:=omega)only[push_cast,hal,h1,h2,h3,h7,h8,hwl,hik',hy,hy',hz,hz',q,str_eq,Cab.enc,Cls.enc,Tryz.f122,↓WX,simprocAttr]
    rw[hin];rfl
   ·rw[decide_eq_false q]at hst
    simp(maxSteps:=1000000)(disch:=omega)only[push_cast,hal,h1,h2,h3,h7,h8,hwl,hik',hy,hy',hz,hz',q,str_eq,Cab.enc,Cls.enc,wrap_ok,Int.natCast_add,Int.natCast_one,↓WX,simprocAttr]
    exact⟨fun h=>absurd h hik,hst⟩
 obtain⟨d,T,ho,rfl⟩:=this
 exact callD_pure rfl (by simp[pureL_cons,pureL_nil,D.pure,Cfg_pure]) ho rfl

/-! ### The violations of the classes of a cabin -/
set_option maxHeartbeats 16000000 in
set_option maxRecDepth 100000 in
theorem classes_d {n k:Nat} {c:Cfg} {y:Cab} {p:ByteArray} (hn:200≤n) (hc:Sm c) (hcs:∀z∈y.cls,z.code.size+6<n∧z.code.size≤9223372036854775807) (hy:c.cabs[k]? =some y) (hp:1≤p.size) (hp2:p.size≤100):
  WO (dcall E (n+1) 95 [.agg c.enc,.int .i64 k,.str p] []) fun d T=>GL 2 encF T d (clsL p (codes (c.cabs.take k)) y y.cls.length):=by
 have hkl:k<c.cabs.length:=lt_of_get hy
 have hly:=hc.cls y (List.mem_of_getElem? hy)
 refine wo_dcall Tryz.func95 rfl (by decide) rfl 86 rfl (fun a hal ha=>?_)
 have h0:a[0]? =some (.agg c.enc):=ha 0 (by simp)
 have h1:a[1]? =some (.int .i64 k):=ha 1 (by simp)
 have h2:a[2]? =some (.str p):=ha 2 (by simp)
 clear ha
 simp only[Cfg.enc]at h0
 simp(maxSteps:=1000000)(disch:=omega)only[push_cast,hal,h0,h1,hy,Cab.enc,↓WX,simprocAttr]
 refine wl_loop (fun j a T=>a.length=86∧a[1]? =some (.int .i64 k)∧a[2]? =some (.str p)∧a[3]? =some (.loc 0 0 0)∧a[8]? =some (.loc 1 0 0)∧a[9]? =some (.int .i64 j)∧T[0]? =some (.row 2 [[.str c.equip,.sl 4 (c.cabs.map Cab.enc) c.cabsx]])∧T[1]? =some (cabR y)∧∃d,a[7]? =some d∧GL 2 encF T d (clsL p (codes (c.cabs.take k)) y j)) y.cls.length ?_ (by omega) ?_
 ·simp(maxSteps:=1000000)(disch:=omega)only[push_cast,hal,h1,h2,Int.natCast_zero,simprocAttr]
  exact⟨_,rfl,GL.nil⟩
 clear hal h0 h1 h2 a
 rintro j a T hj ⟨hal,h1,h2,h3,h8,h9,hT0,hT1,d,h7,hg⟩
 rcases Nat.lt_or_eq_of_le hj with hlt |rfl
 case inr=>
  simp(maxSteps:=1000000)(disch:=omega)only[push_cast,hal,h7,h8,h9,Nat.lt_irrefl,hT1,Tryz.f95,↓WX,simprocAttr]
  exact hg
 obtain⟨z,hz⟩:∃z,y.cls[j]? =some z:=⟨y.cls[j],by simp⟩
 obtain⟨hz1,hz2⟩:=hcs z (List.mem_of_getElem? hz)
 have cp:=placeK_c (n:=n) (i:=j) (by omega) (by omega) hp hp2
 have cc:=r01_class (n:=n) (s:=z.code) (by omega) hz2
 have co:=occurs_c (n:=n) (by omega) hc hy hz
 have cr:=rRng_c (n:=n) (by omega) y
 have hlen:=clsL_len p (codes (c.cabs.take k)) y j
 have hsucc:clsL p (codes (c.cabs.take k)) y (j+1)=clsL p (codes (c.cabs.take k)) y j++ifF (!clsB z.code) 16 (clsS p j)++ifF (inB z.code (codes (c.cabs.take k)++(y.cls.take j).map (·.code))) 6 (clsS p j)++ifF (protB y j z) 2 (clsS p j):=by
  rw[clsL,hz]
  show clsL p (codes (c.cabs.take k)) y j++clsF p _ y j z=_
  unfold clsF
  simp only[List.append_assoc]
 have l1:=ifF_len (!clsB z.code) 16 (clsS p j)
 have l2:=ifF_len (inB z.code (codes (c.cabs.take k)++(y.cls.take j).map (·.code))) 6 (clsS p j)
 generalize hq:clsS p j=q at*
 generalize hb2:inB z.code (codes (c.cabs.take k)++(y.cls.take j).map (·.code))=b2 at*
 generalize hb1:clsB z.code=b1 at*
 have hca:c.enc=[.str c.equip,.sl 4 (c.cabs.map Cab.enc) c.cabsx]:=rfl
 rw[hca]at co
 have hcb:y.enc=[.str y.name,.int .i64 y.seats,.int .i64 y.over,.sl 2 (y.cls.map Cls.enc) y.clsx]:=rfl
 rw[hcb]at cr
 have hg0:=hg.push (.row 2 [[.str z.code,.int .i64 z.prot]])
 have hk0:KeepF T (T++[Ob.row 2 [[.str z.code,.int .i64 z.prot]]]):=KeepF.push
 have hz0:(T++[Ob.row 2 [[.str z.code,.int .i64 z.prot]]])[T.length]? =some (.row 2 [[.str z.code,.int .i64 z.prot]]):=get_end
 obtain⟨d1,T1,p1,q1,g1,k1⟩:=app_if hg0 (by omega) (!b1) 16 q
 obtain⟨d2,T2,p2,q2,g2,k2⟩:=app_if g1 (by rw[List.length_append];omega) b2 6 q
 obtain⟨d3,T3,p3,q3,g3,k3⟩:=app_if g2 (by rw[List.length_append,List.length_append];omega) (protB y j z) 2 q
 rw[←hsucc]at g3
 have e00:=hk0 0 _ not_fault2 hT0
 have e10:=hk0 1 _ not_fault4 hT1
 have e01:=k1 0 _ not_fault2 e00
 have e11:=k1 1 _ not_fault4 e10
 have e21:=k1 _ _ not_fault2 hz0
 have e02:=k2 0 _ not_fault2 e01
 have e12:=k2 1 _ not_fault4 e11
 have e22:=k2 _ _ not_fault2 e21
 have e03:=k3 0 _ not_fault2 e02
 have e13:=k3 1 _ not_fault4 e12
 have hj0:j=0∨0<j:=by omega
 by_cases c1:z.prot<0
 ·skip
  have hb3:protB y j z=true:=by simp[protB,c1]
  rw[hb3]at p3 q3
  replace p3:=p3 rfl
  cases b1 <;> cases b2
  all_goals first |replace p1:=p1 rfl | (obtain⟨rfl,rfl⟩:=q1 rfl)
  all_goals first |replace p2:=p2 rfl | (obtain⟨rfl,rfl⟩:=q2 rfl)
  all_goals simp(maxSteps:=1000000)(disch:=omega)only[push_cast,hal,h1,h2,h3,h7,h8,h9,hlt,hz,cp,cc,co,p1,p2,p3,hT1,hz0,e00,e01,e21,e22,set_end,get_end,dUn,Bool.not_true,Bool.not_false,c1,Cls.enc,wrap_ok,Int.natCast_add,Int.natCast_one,↓WX,simprocAttr]
  all_goals first |exact⟨e03,e13,_,rfl,g3⟩ |exact⟨_,rfl,g3⟩
 rcases hj0 with hj0 |hj0
 ·have c2:¬(0:Int)<j:=by omega
  have c2':¬0<j:=by omega
  cases hr:rngB y
  ·rw[hr]at cr
   have hb3:protB y j z=false:=by simp[protB,c1,c2',hr]
   rw[hb3]at p3 q3
   obtain⟨rfl,rfl⟩:=q3 rfl
   cases b1 <;> cases b2
   all_goals first |replace p1:=p1 rfl | (obtain⟨rfl,rfl⟩:=q1 rfl)
   all_goals first |replace p2:=p2 rfl | (obtain⟨rfl,rfl⟩:=q2 rfl)
   all_goals simp(maxSteps:=1000000)(disch:=omega)only[push_cast,gt_iff_lt,hal,h1,h2,h3,h7,h8,h9,hlt,hz,cp,cc,co,cr,p1,p2,hT1,hz0,e00,e10,e01,e11,e21,e02,e12,e22,set_end,get_end,dUn,Bool.not_true,Bool.not_false,c1,c2,Cls.enc,wrap_ok,Int.natCast_add,Int.natCast_one,↓WX,simprocAttr]
   all_goals first |exact⟨e03,e13,_,rfl,g3⟩ |exact⟨_,rfl,g3⟩
  ·rw[hr]at cr
   have hr':=hr
   simp only[rngB,Bool.and_eq_true,decide_eq_true_eq]at hr'
   have ca:=rAuth_c (n:=n) (by omega) (y:=y) (by omega) (by omega) (by omega) (by omega)
   rw[hcb]at ca
   by_cases c5:autF y<z.prot
   ·skip
    have hb3:protB y j z=true:=by simp[protB,c1,c2',hr,c5]
    rw[hb3]at p3 q3
    replace p3:=p3 rfl
    cases b1 <;> cases b2
    all_goals first |replace p1:=p1 rfl | (obtain⟨rfl,rfl⟩:=q1 rfl)
    all_goals first |replace p2:=p2 rfl | (obtain⟨rfl,rfl⟩:=q2 rfl)
    all_goals simp(maxSteps:=1000000)(disch:=omega)only[push_cast,gt_iff_lt,hal,h1,h2,h3,h7,h8,h9,hlt,hz,cp,cc,co,cr,p1,p2,p3,hT1,hz0,e00,e10,e01,e11,e21,e12,e22,set_end,get_end,dUn,Bool.not_true,Bool.not_false,c1,c2,c5,ca,Cls.enc,wrap_ok,Int.natCast_add,Int.natCast_one,↓WX,simprocAttr]
    all_goals first |exact⟨e03,e13,_,rfl,g3⟩ |exact⟨_,rfl,g3⟩
   ·skip
    have hb3:protB y j z=false:=by simp[protB,c1,c2',hr,c5]
    rw[hb3]at p3 q3
    obtain⟨rfl,rfl⟩:=q3 rfl
    cases b1 <;> cases b2
    all_goals first |replace p1:=p1 rfl | (obtain⟨rfl,rfl⟩:=q1 rfl)
    all_goals first |replace p2:=p2 rfl | (obtain⟨rfl,rfl⟩:=q2 rfl)
    all_goals simp(maxSteps:=1000000)(disch:=omega)only[push_cast,gt_iff_lt,hal,h1,h2,h3,h7,h8,h9,hlt,hz,cp,cc,co,cr,p1,p2,hT1,hz0,e00,e10,e01,e11,e21,e02,e12,e22,set_end,get_end,dUn,Bool.not_true,Bool.not_false,c1,c2,c5,ca,Cls.enc,wrap_ok,Int.natCast_add,Int.natCast_one,↓WX,simprocAttr]
    all_goals first |exact⟨e03,e13,_,rfl,g3⟩ |exact⟨_,rfl,g3⟩
 have c2:(0:Int)<j:=by omega
 obtain⟨z',hz'⟩:∃z',y.cls[j-1]? =some z':=⟨y.cls[j-1]'(by omega),by simp⟩
 have hpi:((j:Int)-1).toNat=j-1:=by omega
 have hpn:(0:Int)≤(j:Int)-1:=by omega
 by_cases c3:z.prot<z'.prot
 ·skip
  have hb3:protB y j z=true:=by simp[protB,c1,hj0,hz',c3]
  rw[hb3]at p3 q3
  replace p3:=p3 rfl
  cases b1 <;> cases b2
  all_goals first |replace p1:=p1 rfl | (obtain⟨rfl,rfl⟩:=q1 rfl)
  all_goals first |replace p2:=p2 rfl | (obtain⟨rfl,rfl⟩:=q2 rfl)
  all_goals simp(maxSteps:=1000000)(disch:=omega)only[push_cast,gt_iff_lt,hal,h1,h2,h3,h7,h8,h9,hlt,hz,cp,cc,co,p1,p2,p3,hT1,hz0,e00,e10,e01,e11,e21,e12,e22,set_end,get_end,dUn,Bool.not_true,Bool.not_false,c1,c2,hz',c3,hpi,hpn,Cls.enc,wrap_ok,Int.natCast_add,Int.natCast_one,↓WX,simprocAttr]
  all_goals first |exact⟨e03,e13,_,rfl,g3⟩ |exact⟨_,rfl,g3⟩
 cases hr:rngB y
 ·rw[hr]at cr
  have hb3:protB y j z=false:=by simp[protB,c1,hj0,hz',c3,hr]
  rw[hb3]at p3 q3
  obtain⟨rfl,rfl⟩:=q3 rfl
  cases b1 <;> cases b2
  all_goals first |replace p1:=p1 rfl | (obtain⟨rfl,rfl⟩:=q1 rfl)
  all_goals first |replace p2:=p2 rfl | (obtain⟨rfl,rfl⟩:=q2 rfl)
  all_goals simp(maxSteps:=1000000)(disch:=omega)only[push_cast,gt_iff_lt,hal,h1,h2,h3,h7,h8,h9,hlt,hz,cp,cc,co,cr,p1,p2,hT1,hz0,e00,e10,e01,e11,e21,e02,e12,e22,set_end,get_end,dUn,Bool.not_true,Bool.not_false,c1,c2,hz',c3,hpi,hpn,Cls.enc,wrap_ok,Int.natCast_add,Int.natCast_one,↓WX,simprocAttr]
  all_goals first |exact⟨e03,e13,_,rfl,g3⟩ |exact⟨_,rfl,g3⟩
 ·rw[hr]at cr
  have hr':=hr
  simp only[rngB,Bool.and_eq_true,decide_eq_true_eq]at hr'
  have ca:=rAuth_c (n:=n) (by omega) (y:=y) (by omega) (by omega) (by omega) (by omega)
  rw[hcb]at ca
  by_cases c5:autF y<z.prot
  ·skip
   have hb3:protB y j z=true:=by simp[protB,c1,hj0,hz',c3,hr,c5]
   rw[hb3]at p3 q3
   replace p3:=p3 rfl
   cases b1 <;> cases b2
   all_goals first |replace p1:=p1 rfl | (obtain⟨rfl,rfl⟩:=q1 rfl)
   all_goals first |replace p2:=p2 rfl | (obtain⟨rfl,rfl⟩:=q2 rfl)
   all_goals simp(maxSteps:=1000000)(disch:=omega)only[push_cast,gt_iff_lt,hal,h1,h2,h3,h7,h8,h9,hlt,hz,cp,cc,co,cr,p1,p2,p3,hT1,hz0,e00,e10,e01,e11,e21,e12,e22,set_end,get_end,dUn,Bool.not_true,Bool.not_false,c1,c2,hz',c3,c5,ca,hpi,hpn,Cls.enc,wrap_ok,Int.natCast_add,Int.natCast_one,↓WX,simprocAttr]
   all_goals first |exact⟨e03,e13,_,rfl,g3⟩ |exact⟨_,rfl,g3⟩
  ·skip
   have hb3:protB y j z=false:=by simp[protB,c1,hj0,hz',c3,hr,c5]
   rw[hb3]at p3 q3
   obtain⟨rfl,rfl⟩:=q3 rfl
   cases b1 <;> cases b2
   all_goals first |replace p1:=p1 rfl | (obtain⟨rfl,rfl⟩:=q1 rfl)
   all_goals first |replace p2:=p2 rfl | (obtain⟨rfl,rfl⟩:=q2 rfl)
   all_goals simp(maxSteps:=1000000)(disch:=omega)only[push_cast,gt_iff_lt,hal,h1,h2,h3,h7,h8,h9,hlt,hz,cp,cc,co,cr,p1,p2,hT1,hz0,e00,e10,e01,e11,e21,e02,e12,e22,set_end,get_end,dUn,Bool.not_true,Bool.not_false,c1,c2,hz',c3,c5,ca,hpi,hpn,Cls.enc,wrap_ok,Int.natCast_add,Int.natCast_one,↓WX,simprocAttr]
   all_goals first |exact⟨e03,e13,_,rfl,g3⟩ |exact⟨_,rfl,g3⟩
set_option linter.unusedSimpArgs false

theorem rcode_c {n:Nat} {s:ByteArray} {l m:Int} (hn:s.size+5<n) (hz:s.size≤9223372036854775807) (st:Bool) (S:List Ob):callD E (dcall E n) st S 40 [.str s,.int .i64 l,.int .i64 m]=some (.bool (codeS s l m),S):=by
 obtain⟨q,rfl⟩:∃q,n=q+1:=⟨n-1,by omega⟩
 exact callD_pure rfl rfl (eq_of_wo (ref_Code_d (by omega) hz)) rfl
structure CfgZ (n:Nat) (c:Cfg):Prop where
 eq:c.equip.size+20<n∧c.equip.size≤9223372036854775807
 nm:∀y∈c.cabs,y.name.size+20<n∧y.name.size≤9223372036854775807
 cl:∀y∈c.cabs,∀z∈y.cls,z.code.size+20<n∧z.code.size≤9223372036854775807
theorem classes_c {n k:Nat} {c:Cfg} {y:Cab} {p:ByteArray} (hn:210≤n) (hc:Sm c) (hz:CfgZ n c) (hy:c.cabs[k]? =some y) (hp:1≤p.size) (hp2:p.size≤100):
  ∃x,FLs 2 encF x (clsL p (codes (c.cabs.take k)) y y.cls.length)∧∀st S,callD E (dcall E n) st S 95 [.agg c.enc,.int .i64 k,.str p]=some (x,S):=by
 obtain⟨m,rfl⟩:∃m,n=m+1:=⟨n-1,by omega⟩
 obtain⟨d,T,ho,hg⟩:=classes_d (n:=m) (p:=p) (by omega) hc (fun z hz'=>by
  have:=hz.cl y (List.mem_of_getElem? hy) z hz'
  exact⟨by omega,this.2⟩) hy hp hp2
 obtain⟨d',hf,hd⟩:=hg.fls (encF_pure _)
 exact⟨d',hd,fun st S=>callD_pure rfl (by simp[pureL_cons,pureL_nil,D.pure,Cfg_pure]) ho hf⟩
theorem inB_name {nm:ByteArray} {l:List Cab} {j:Nat} {z:Cab} (hz:l[j]? =some z):inB nm ((l.take (j+1)).map (·.name))=(inB nm ((l.take j).map (·.name)) || decide (z.name=nm)):=by
 rw[List.take_add_one,hz,List.map_append,inB_app]
 congr 1
 exact inB_one nm z.name
theorem inB_equip {nm:ByteArray} {l:List Cfg} {j:Nat} {z:Cfg} (hz:l[j]? =some z):inB nm ((l.take (j+1)).map (·.equip))=(inB nm ((l.take j).map (·.equip)) || decide (z.equip=nm)):=by
 rw[List.take_add_one,hz,List.map_append,inB_app]
 congr 1
 exact inB_one nm z.equip
set_option maxHeartbeats 16000000 in
set_option maxRecDepth 100000 in
theorem cabins_d {n:Nat} {c:Cfg} {p:ByteArray} (hn:220≤n) (hc:Sm c) (hz:CfgZ n c) (hp:1≤p.size) (hp2:p.size≤9):
  WO (dcall E (n+1) 41 [.agg c.enc,.str p] []) fun d T=>GL 2 encF T d (cabL p c.cabs c.cabs.length):=by
 have hl:=hc.cabs
 refine wo_dcall Tryz.func41 rfl (by decide) rfl 88 rfl (fun a hal ha=>?_)
 have h0:a[0]? =some (.agg c.enc):=ha 0 (by simp)
 have h1:a[1]? =some (.str p):=ha 1 (by simp)
 clear ha
 simp only[Cfg.enc]at h0
 simp(maxSteps:=1000000)(disch:=omega)only[push_cast,h0,↓WX,simprocAttr]
 refine wl_loop (fun i a T=>a.length=88∧a[1]? =some (.str p)∧a[2]? =some (.loc 0 0 0)∧a[6]? =some (.int .i64 i)∧T[0]? =some (.row 2 [[.str c.equip,.sl 4 (c.cabs.map Cab.enc) c.cabsx]])∧∃d,a[5]? =some d∧GL 2 encF T d (cabL p c.cabs i)) c.cabs.length ?_ (by omega) ?_
 ·simp(maxSteps:=1000000)(disch:=omega)only[push_cast,hal,h1,Int.natCast_zero,simprocAttr]
  exact⟨_,rfl,GL.nil⟩
 clear hal h0 h1 a
 rintro i a T hi ⟨hal,h1,h2,h6,hT0,d,h5,hg⟩
 rcases Nat.lt_or_eq_of_le hi with hlt |rfl
 case inr=>
  simp(maxSteps:=1000000)(disch:=omega)only[push_cast,hal,h2,h5,h6,Nat.lt_irrefl,hT0,Tryz.f41,↓WX,simprocAttr]
  exact hg
 obtain⟨y,hy⟩:∃y,c.cabs[i]? =some y:=⟨c.cabs[i],by simp⟩
 have hym:=List.mem_of_getElem? hy
 have hly:=hc.cls y hym
 have cp:=placeB_c (n:=n) (i:=i) (p:=p) (by omega) (by omega) hp (by omega)
 simp(maxSteps:=1000000)(disch:=omega)only[push_cast,hal,h1,h2,h6,hlt,hT0,hy,cp,set_end,get_end,Cab.enc,↓WX,simprocAttr]
 refine wl_loop (fun w a U=>U=T++[cabR y]∧a.length=88∧a[1]? =some (.str p)∧a[2]? =some (.loc 0 0 0)∧a[5]? =some (d)∧a[6]? =some (.int .i64 i)∧a[7]? =some (.str (cbnS p i))∧a[8]? =some (.loc T.length 0 0)∧a[9]? =some (.bool (inB y.name ((c.cabs.take w).map (·.name))))∧a[10]? =some (.int .i64 w)) i ?_ (by omega) ?_
 ·simp(maxSteps:=1000000)(disch:=omega)only[push_cast,hal,h1,h2,h5,h6,Int.natCast_zero,List.take_zero,List.map_nil,inB,simprocAttr]
 clear hal h1 h2 h5 h6 a
 rintro w a U hw ⟨rfl,hal,h1,h2,h5,h6,h7,h8,h9,h10⟩
 have hT0':(T++[cabR y])[0]? =some (.row 2 [[.str c.equip,.sl 4 (c.cabs.map Cab.enc) c.cabsx]]):=get_old hT0
 rcases Nat.lt_or_eq_of_le hw with hwl |rfl
 ·obtain⟨y',hy'⟩:∃y',c.cabs[w]? =some y':=⟨c.cabs[w]'(by omega),by simp⟩
  have hst:=inB_name (nm:=y.name) hy'
  cases hb:inB y.name ((c.cabs.take w).map (·.name))
  ·rw[hb]at h9 hst
   rw[Bool.false_or]at hst
   have hwc:w<c.cabs.length:=by omega
   by_cases q:y'.name=y.name
   ·rw[decide_eq_true q]at hst
    simp(maxSteps:=1000000)(disch:=omega)only[push_cast,hal,h1,h2,h5,h6,h7,h8,h9,h10,hwl,hT0',get_end,hy',q,str_eq,hst,Cab.enc,wrap_ok,Int.natCast_add,Int.natCast_one,↓WX,simprocAttr]
   ·rw[decide_eq_false q]at hst
    simp(maxSteps:=1000000)(disch:=omega)only[push_cast,hal,h1,h2,h5,h6,h7,h8,h9,h10,hwl,hT0',get_end,hy',q,str_eq,hst,Cab.enc,wrap_ok,Int.natCast_add,Int.natCast_one,↓WX,simprocAttr]
  ·rw[hb]at h9 hst
   rw[Bool.true_or]at hst
   simp(maxSteps:=1000000)(disch:=omega)only[push_cast,hal,h1,h2,h5,h6,h7,h8,h9,h10,hwl,hst,wrap_ok,Int.natCast_add,Int.natCast_one,↓WX,simprocAttr]
 have hnm:=hz.nm y hym
 have cc:=rcode_c (n:=n) (s:=y.name) (l:=1) (m:=8) (by omega) hnm.2
 have cr:=rRng_c (n:=n) (by omega) y
 have hcs:=cbnS_size w hp2
 obtain⟨xs,hxs,ck⟩:=classes_c (n:=n) (p:=cbnS p w) (by omega) hc hz hy hcs.1 (by omega)
 have hlen:=cabL_len p c.cabs hc.cls w
 have hlc:=clsL_len (cbnS p w) (codes (c.cabs.take w)) y y.cls.length
 have hsucc:cabL p c.cabs (w+1)=cabL p c.cabs w++ifF (!codeS y.name 1 8) 5 (cbnS p w)++ifF (inB y.name ((c.cabs.take w).map (·.name))) 6 (cbnS p w)++ifF (!rngB y) 2 (cbnS p w)++ifF (decide (y.cls.length<1) || decide (26<y.cls.length)) 4 (cbnS p w)++clsL (cbnS p w) (codes (c.cabs.take w)) y y.cls.length:=by
  rw[cabL,hy]
  show cabL p c.cabs w++cabF p _ w y=_
  unfold cabF
  simp only[List.append_assoc]
 have l1:=ifF_len (!codeS y.name 1 8) 5 (cbnS p w)
 have l2:=ifF_len (inB y.name ((c.cabs.take w).map (·.name))) 6 (cbnS p w)
 have l3:=ifF_len (!rngB y) 2 (cbnS p w)
 have l4:=ifF_len (decide (y.cls.length<1) || decide (26<y.cls.length)) 4 (cbnS p w)
 have hca:c.enc=[.str c.equip,.sl 4 (c.cabs.map Cab.enc) c.cabsx]:=rfl
 rw[hca]at ck
 have hcb:y.enc=[.str y.name,.int .i64 y.seats,.int .i64 y.over,.sl 2 (y.cls.map Cls.enc) y.clsx]:=rfl
 rw[hcb]at cr
 generalize hq:cbnS p w=q at*
 generalize hb2:inB y.name ((c.cabs.take w).map (·.name))=b2 at*
 generalize hb1:codeS y.name 1 8=b1 at*
 generalize hb3:rngB y=b3 at*
 have hg0:=hg.push (cabR y)
 have hy0:(T++[cabR y])[T.length]? =some (cabR y):=get_end
 obtain⟨d1,T1,p1,q1,g1,k1⟩:=app_if hg0 (by omega) (!b1) 5 q
 obtain⟨d2,T2,p2,q2,g2,k2⟩:=app_if g1 (by rw[List.length_append];omega) b2 6 q
 obtain⟨d3,T3,p3,q3,g3,k3⟩:=app_if g2 (by rw[List.length_append,List.length_append];omega) (!b3) 2 q
 obtain⟨d4,T4,p4,q4,g4,k4⟩:=app_if g3 (by rw[List.length_append,List.length_append,List.length_append];omega) (decide (y.cls.length<1) || decide (26<y.cls.length)) 4 q
 obtain⟨d5,T5,p5,g5,k5⟩:=app_fls g4 hxs (by rw[List.length_append,List.length_append,List.length_append,List.length_append];omega)
 rw[←hsucc]at g5
 have e01:=k1 0 _ not_fault2 hT0'
 have e11:=k1 _ _ not_fault4 hy0
 have e02:=k2 0 _ not_fault2 e01
 have e12:=k2 _ _ not_fault4 e11
 have e03:=k3 0 _ not_fault2 e02
 have e13:=k3 _ _ not_fault4 e12
 have e04:=k4 0 _ not_fault2 e03
 have e05:=k5 0 _ not_fault2 e04
 have hwi:¬(w:Int)<w:=by omega
 have key:∀b4,(decide (y.cls.length<1) || decide (26<y.cls.length))=b4→(b4=true→((y.cls.length:Int)<1)∨(¬(y.cls.length:Int)<1∧(26:Int)<y.cls.length))∧(b4=false→¬(y.cls.length:Int)<1∧¬(26:Int)<y.cls.length):=fun b4 h=>by
  subst h
  constructor
  ·intro h
   simp only[Bool.or_eq_true,decide_eq_true_eq]at h
   omega
  ·intro h
   simp only[Bool.or_eq_false_iff,decide_eq_false_iff_not]at h
   omega
 generalize hb4:(decide (y.cls.length<1) || decide (26<y.cls.length))=b4 at*
 obtain⟨kt,kf⟩:=key b4 rfl
 clear key
 cases b4
 ·obtain⟨c6,c7⟩:=kf rfl
  obtain⟨rfl,rfl⟩:=q4 rfl
  cases b1 <;> cases b2 <;> cases b3
  all_goals first |replace p1:=p1 rfl | (obtain⟨rfl,rfl⟩:=q1 rfl)
  all_goals first |replace p2:=p2 rfl | (obtain⟨rfl,rfl⟩:=q2 rfl)
  all_goals first |replace p3:=p3 rfl | (obtain⟨rfl,rfl⟩:=q3 rfl)
  all_goals simp(maxSteps:=1000000)(disch:=omega)only[push_cast,gt_iff_lt,hal,h1,h2,h5,h6,h7,h8,h9,h10,hwi,hlt,hT0',hy0,e01,e11,e02,e12,e03,e13,cc,cr,ck,p1,p2,p3,p5,c6,c7,dUn,Bool.not_true,Bool.not_false,wrap_ok,Int.natCast_add,Int.natCast_one,↓WX,simprocAttr]
  all_goals first |exact⟨e05,_,rfl,g5⟩ |exact⟨_,rfl,g5⟩
 ·replace p4:=p4 rfl
  rcases kt rfl with c6 | ⟨c6,c7⟩
  ·cases b1 <;> cases b2 <;> cases b3
   all_goals first |replace p1:=p1 rfl | (obtain⟨rfl,rfl⟩:=q1 rfl)
   all_goals first |replace p2:=p2 rfl | (obtain⟨rfl,rfl⟩:=q2 rfl)
   all_goals first |replace p3:=p3 rfl | (obtain⟨rfl,rfl⟩:=q3 rfl)
   all_goals simp(maxSteps:=1000000)(disch:=omega)only[push_cast,hal,h1,h2,h5,h6,h7,h8,h9,h10,hwi,hlt,hy0,e11,e12,e13,e04,cc,cr,ck,p1,p2,p3,p4,p5,c6,dUn,Bool.not_true,Bool.not_false,wrap_ok,Int.natCast_add,Int.natCast_one,↓WX,simprocAttr]
   all_goals first |exact⟨e05,_,rfl,g5⟩ |exact⟨_,rfl,g5⟩
  ·cases b1 <;> cases b2 <;> cases b3
   all_goals first |replace p1:=p1 rfl | (obtain⟨rfl,rfl⟩:=q1 rfl)
   all_goals first |replace p2:=p2 rfl | (obtain⟨rfl,rfl⟩:=q2 rfl)
   all_goals first |replace p3:=p3 rfl | (obtain⟨rfl,rfl⟩:=q3 rfl)
   all_goals simp(maxSteps:=1000000)(disch:=omega)only[push_cast,gt_iff_lt,hal,h1,h2,h5,h6,h7,h8,h9,h10,hwi,hlt,hy0,e11,e12,e13,e04,cc,cr,ck,p1,p2,p3,p4,p5,c6,c7,dUn,Bool.not_true,Bool.not_false,wrap_ok,Int.natCast_add,Int.natCast_one,↓WX,simprocAttr]
   all_goals first |exact⟨e05,_,rfl,g5⟩ |exact⟨_,rfl,g5⟩
theorem cabins_c {n:Nat} {c:Cfg} {p:ByteArray} (hn:230≤n) (hc:Sm c) (hz:CfgZ (n-1) c) (hp:1≤p.size) (hp2:p.size≤9):
  ∃x,FLs 2 encF x (cabL p c.cabs c.cabs.length)∧∀st S,callD E (dcall E n) st S 41 [.agg c.enc,.str p]=some (x,S):=by
 obtain⟨m,rfl⟩:∃m,n=m+1:=⟨n-1,by omega⟩
 obtain⟨d,T,ho,hg⟩:=cabins_d (n:=m) (p:=p) (by omega) hc hz hp hp2
 obtain⟨d',hf,hd⟩:=hg.fls (encF_pure _)
 exact⟨d',hd,fun st S=>callD_pure rfl (by simp[pureL_cons,pureL_nil,D.pure,Cfg_pure]) ho hf⟩
theorem cfgL_len (l:List Cfg) (h:∀c∈l,Sm c):∀i,(cfgL l i).length≤2823*i
 |0=>Nat.le_refl _
 |i+1=>by
  have:=cfgL_len l h i
  unfold cfgL
  rw[List.length_append]
  rcases e:l[i]? with _ |x
  ·simp;omega
  ·have h0:=h x (List.mem_of_getElem? e)
   have h00:=h0.cabs
   have h1:=ifF_len (!codeS x.equip 3 3) 5 (cnfS i)
   have h2:=ifF_len (inB x.equip ((l.take i).map (·.equip))) 6 (cnfS i)
   have h3:=ifF_len (decide (x.cabs.length<1) || decide (4<x.cabs.length)) 4 (cnfS i)
   have h4:=cabL_len (cnfS i) x.cabs h0.cls x.cabs.length
   simp only[cfgF,List.length_append];omega
set_option maxHeartbeats 16000000 in
set_option maxRecDepth 100000 in
theorem rCheck_d {n:Nat} {l:List Cfg} {lx:Bool} (hn:240≤n) (hl:l.length≤30) (hc:∀c∈l,Sm c) (hz:∀c∈l,CfgZ (n-1) c):
  WO (dcall E (n+1) 16 [.sl 2 (l.map Cfg.enc) lx] []) fun d T=>GL 2 encF T d (cfgL l l.length):=by
 refine wo_dcall Tryz.func16 rfl (by decide) rfl 83 rfl (fun a hal ha=>?_)
 have h0:a[0]? =some (.sl 2 (l.map Cfg.enc) lx):=ha 0 (by simp)
 clear ha
 simp(maxSteps:=1000000)(disch:=omega)only[push_cast,↓WX,simprocAttr]
 refine wl_loop (fun i a T=>a.length=83∧a[0]? =some (.sl 2 (l.map Cfg.enc) lx)∧a[4]? =some (.int .i64 i)∧∃d,a[3]? =some d∧GL 2 encF T d (cfgL l i)) l.length ?_ (by omega) ?_
 ·simp(maxSteps:=1000000)(disch:=omega)only[push_cast,hal,h0,Int.natCast_zero,simprocAttr]
  exact⟨_,rfl,GL.nil⟩
 clear hal h0 a
 rintro i a T hi ⟨hal,h0,h4,d,h3,hg⟩
 rcases Nat.lt_or_eq_of_le hi with hlt |rfl
 case inr=>
  simp(maxSteps:=1000000)(disch:=omega)only[push_cast,hal,h0,h3,h4,Nat.lt_irrefl,Tryz.f16,↓WX,simprocAttr]
  exact hg
 obtain⟨y,hy⟩:∃y,l[i]? =some y:=⟨l[i],by simp⟩
 have hym:=List.mem_of_getElem? hy
 have hsm:=hc y hym
 have hyz:=hz y hym
 have cp:=placeC_c (n:=n) (i:=i) (by omega) (by omega)
 simp(maxSteps:=1000000)(disch:=omega)only[push_cast,hal,h0,h4,hlt,cp,↓WX,simprocAttr]
 refine wl_loop (fun w a U=>U=T∧a.length=83∧a[0]? =some (.sl 2 (l.map Cfg.enc) lx)∧a[3]? =some (d)∧a[4]? =some (.int .i64 i)∧a[5]? =some (.str (cnfS i))∧a[6]? =some (.bool (inB y.equip ((l.take w).map (·.equip))))∧a[7]? =some (.int .i64 w)) i ?_ (by omega) ?_
 ·simp(maxSteps:=1000000)(disch:=omega)only[push_cast,hal,h0,h3,h4,Int.natCast_zero,List.take_zero,List.map_nil,inB,simprocAttr]
 clear hal h0 h3 h4 a
 rintro w a U hw ⟨rfl,hal,h0,h3,h4,h5,h6,h7⟩
 rcases Nat.lt_or_eq_of_le hw with hwl |rfl
 ·obtain⟨y',hy'⟩:∃y',l[w]? =some y':=⟨l[w]'(by omega),by simp⟩
  have hst:=inB_equip (nm:=y.equip) hy'
  cases hb:inB y.equip ((l.take w).map (·.equip))
  ·rw[hb]at h6 hst
   rw[Bool.false_or]at hst
   have hwc:w<l.length:=by omega
   by_cases q:y'.equip=y.equip
   ·rw[decide_eq_true q]at hst
    simp(maxSteps:=1000000)(disch:=omega)only[push_cast,hal,h0,h3,h4,h5,h6,h7,hwl,hy,hy',q,str_eq,hst,Cfg.enc,wrap_ok,Int.natCast_add,Int.natCast_one,↓WX,simprocAttr]
   ·rw[decide_eq_false q]at hst
    simp(maxSteps:=1000000)(disch:=omega)only[push_cast,hal,h0,h3,h4,h5,h6,h7,hwl,hy,hy',q,str_eq,hst,Cfg.enc,wrap_ok,Int.natCast_add,Int.natCast_one,↓WX,simprocAttr]
  ·rw[hb]at h6 hst
   rw[Bool.true_or]at hst
   simp(maxSteps:=1000000)(disch:=omega)only[push_cast,hal,h0,h3,h4,h5,h6,h7,hwl,hst,wrap_ok,Int.natCast_add,Int.natCast_one,↓WX,simprocAttr]
 have cc:=rcode_c (n:=n) (s:=y.equip) (l:=3) (m:=3) (by have:=hyz.eq;omega) hyz.eq.2
 have hcs:=cnfS_size w
 obtain⟨xs,hxs,ck⟩:=cabins_c (n:=n) (p:=cnfS w) (by omega) hsm hyz hcs.1 hcs.2
 have hlen:=cfgL_len l hc w
 have hlc:=cabL_len (cnfS w) y.cabs hsm.cls y.cabs.length
 have hlc2:=hsm.cabs
 have hsucc:cfgL l (w+1)=cfgL l w++ifF (!codeS y.equip 3 3) 5 (cnfS w)++ifF (inB y.equip ((l.take w).map (·.equip))) 6 (cnfS w)++ifF (decide (y.cabs.length<1) || decide (4<y.cabs.length)) 4 (cnfS w)++cabL (cnfS w) y.cabs y.cabs.length:=by
  rw[cfgL,hy]
  show cfgL l w++cfgF _ w y=_
  unfold cfgF
  simp only[List.append_assoc]
 have l1:=ifF_len (!codeS y.equip 3 3) 5 (cnfS w)
 have l2:=ifF_len (inB y.equip ((l.take w).map (·.equip))) 6 (cnfS w)
 have l4:=ifF_len (decide (y.cabs.length<1) || decide (4<y.cabs.length)) 4 (cnfS w)
 have hca:y.enc=[.str y.equip,.sl 4 (y.cabs.map Cab.enc) y.cabsx]:=rfl
 rw[hca]at ck
 generalize hq:cnfS w=q at*
 generalize hb2:inB y.equip ((l.take w).map (·.equip))=b2 at*
 generalize hb1:codeS y.equip 3 3=b1 at*
 obtain⟨d1,T1,p1,q1,g1,-⟩:=app_if hg (by omega) (!b1) 5 q
 obtain⟨d2,T2,p2,q2,g2,-⟩:=app_if g1 (by rw[List.length_append];omega) b2 6 q
 obtain⟨d4,T4,p4,q4,g4,-⟩:=app_if g2 (by rw[List.length_append,List.length_append];omega) (decide (y.cabs.length<1) || decide (4<y.cabs.length)) 4 q
 obtain⟨d5,T5,p5,g5,-⟩:=app_fls g4 hxs (by rw[List.length_append,List.length_append,List.length_append];omega)
 rw[←hsucc]at g5
 have hwi:¬(w:Int)<w:=by omega
 have key:∀b4,(decide (y.cabs.length<1) || decide (4<y.cabs.length))=b4→(b4=true→((y.cabs.length:Int)<1)∨(¬(y.cabs.length:Int)<1∧(4:Int)<y.cabs.length))∧(b4=false→¬(y.cabs.length:Int)<1∧¬(4:Int)<y.cabs.length):=fun b4 h=>by
  subst h
  constructor
  ·intro h
   simp only[Bool.or_eq_true,decide_eq_true_eq]at h
   omega
  ·intro h
   simp only[Bool.or_eq_false_iff,decide_eq_false_iff_not]at h
   omega
 generalize hb4:(decide (y.cabs.length<1) || decide (4<y.cabs.length))=b4 at*
 obtain⟨kt,kf⟩:=key b4 rfl
 clear key
 cases b4
 ·obtain⟨c6,c7⟩:=kf rfl
  obtain⟨rfl,rfl⟩:=q4 rfl
  cases b1 <;> cases b2
  all_goals first |replace p1:=p1 rfl | (obtain⟨rfl,rfl⟩:=q1 rfl)
  all_goals first |replace p2:=p2 rfl | (obtain⟨rfl,rfl⟩:=q2 rfl)
  all_goals simp(maxSteps:=1000000)(disch:=omega)only[push_cast,gt_iff_lt,hal,h0,h3,h4,h5,h6,h7,hwi,hlt,hy,cc,ck,p1,p2,p5,c6,c7,dUn,Bool.not_true,Bool.not_false,Cfg.enc,wrap_ok,Int.natCast_add,Int.natCast_one,↓WX,simprocAttr]
  all_goals exact⟨_,rfl,g5⟩
 ·replace p4:=p4 rfl
  rcases kt rfl with c6 | ⟨c6,c7⟩
  ·cases b1 <;> cases b2
   all_goals first |replace p1:=p1 rfl | (obtain⟨rfl,rfl⟩:=q1 rfl)
   all_goals first |replace p2:=p2 rfl | (obtain⟨rfl,rfl⟩:=q2 rfl)
   all_goals simp(maxSteps:=1000000)(disch:=omega)only[push_cast,hal,h0,h3,h4,h5,h6,h7,hwi,hlt,hy,cc,ck,p1,p2,p4,p5,c6,dUn,Bool.not_true,Bool.not_false,Cfg.enc,wrap_ok,Int.natCast_add,Int.natCast_one,↓WX,simprocAttr]
   all_goals exact⟨_,rfl,g5⟩
  ·cases b1 <;> cases b2
   all_goals first |replace p1:=p1 rfl | (obtain⟨rfl,rfl⟩:=q1 rfl)
   all_goals first |replace p2:=p2 rfl | (obtain⟨rfl,rfl⟩:=q2 rfl)
   all_goals simp(maxSteps:=1000000)(disch:=omega)only[push_cast,gt_iff_lt,hal,h0,h3,h4,h5,h6,h7,hwi,hlt,hy,cc,ck,p1,p2,p4,p5,c6,c7,dUn,Bool.not_true,Bool.not_false,Cfg.enc,wrap_ok,Int.natCast_add,Int.natCast_one,↓WX,simprocAttr]
   all_goals exact⟨_,rfl,g5⟩
theorem rCheck_c {n:Nat} {l:List Cfg} {lx:Bool} (hn:250≤n) (hl:l.length≤30) (hc:∀c∈l,Sm c) (hz:∀c∈l,CfgZ (n-2) c):
  ∃x,FLs 2 encF x (cfgL l l.length)∧∀st S,callD E (dcall E n) st S 16 [.sl 2 (l.map Cfg.enc) lx]=some (x,S):=by
 obtain⟨m,rfl⟩:∃m,n=m+1:=⟨n-1,by omega⟩
 obtain⟨d,T,ho,hg⟩:=rCheck_d (n:=m) (lx:=lx) (by omega) hl hc hz
 obtain⟨d',hf,hd⟩:=hg.fls (encF_pure _)
 exact⟨d',hd,fun st S=>callD_pure rfl (by simp[pureL_cons,pureL_nil,D.pure,Cfgs_pure]) ho hf⟩
end Go.Proofs.YtkemehicndccmaaGreatDoor.Dm
