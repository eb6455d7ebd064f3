/-
  The machine at the reference's classes of a cabin.
  The machine at the program's inventory: what does not change it.
-/
import Derived.Test.YtkemehicndccmaaGreatDoorSkN
set_option linter.unusedSimpArgs false
set_option linter.unusedVariables false
namespace Go.Proofs.YtkemehicndccmaaGreatDoor.Dm
open Go Gw
set_option linter.unusedSimpArgs false
set_option linter.unusedSimpArgs false

theorem el_int:elemT Tryz.prog 120=some 3:=by kernel_rfl
theorem sz_int:sizeT Tryz.prog 3=some 1:=by kernel_rfl
theorem ze_int:zeroT Tryz.prog 3=some (.int .i64 0):=by kernel_rfl
theorem by_int:bytesT Tryz.prog 3≤100000:=by
 have:bytesT Tryz.prog 3=8:=by kernel_rfl
 rw[this];omega
theorem app_z {S:List Ob} {d:D} {l:List Int} (h:GL 1 encZ S d l) (hl:l.length≤100000) (v:Int):
  ∃S',dAppend Tryz.prog S 120 120 d (.sl 1 [[.int .i64 v]] true)=some (.os S.length 0 (l.length+1) false,S')∧GL 1 encZ S' (.os S.length 0 (l.length+1) false) (l++[v])∧S'.length=S.length+1∧(∀k o,(∀n,d=.os k 0 n false→False)→S[k]? =some o→S'[k]? =some o)∧(∀(k sz:Nat) (es:List (List D)),sz≠1→S[k]? =some (.row sz es)→S'[k]? =some (.row sz es)):=
 app_gl el_int sz_int ze_int rfl by_int h hl v
def upTo (f:Nat→Int) (i:Nat):List Int:=(List.range i).map f
theorem upTo_succ (f:Nat→Int) (i:Nat):upTo f i++[f i]=upTo f (i+1):=by simp[upTo,List.range_succ]
theorem upTo_len (f:Nat→Int) (i:Nat):(upTo f i).length=i:=by simp[upTo]
theorem upTo_row (f:Nat→Int) (i:Nat):(upTo f i).map encZ=rowH i f:=by simp[upTo,rowH,List.map_map]
set_option maxHeartbeats 4000000 in
set_option maxRecDepth 100000 in
theorem rLimits_d {n:Nat} {y:Cab} (hn:110≤n) (hy:CabOk y):WO (dcall E (n+1) 147 [.agg y.enc] []) fun r T=>GL 1 encZ T r (upTo (limF y) y.cls.length):=by
 obtain⟨s1,s2,o1,o2,l1,l2,hp,hm⟩:=hy
 have ca:=rAuth_c (n:=n) (by omega) (y:=y) (by omega) (by omega) (by omega) (by omega)
 have hau:0≤autF y∧autF y≤1998:=by unfold autF;omega
 refine wo_dcall Tryz.func147 rfl (by decide) rfl 31 rfl (fun a hal ha=>?_)
 have h0:a[0]? =some (.agg y.enc):=ha 0 (by simp)
 clear ha
 simp only[Cab.enc]at h0 ca
 simp(maxSteps:=1000000)(disch:=omega)only[push_cast,h0,↓WX,simprocAttr]
 refine wl_loop (fun i a T=>a.length=31∧a[1]? =some (.loc 0 0 0)∧a[4]? =some (.int .i64 i)∧T[0]? =some (cabR y)∧∃d,a[3]? =some d∧GL 1 encZ T d (upTo (limF y) i)) y.cls.length ?_ (by omega) ?_
 ·simp(maxSteps:=1000000)(disch:=omega)only[push_cast,hal,Int.natCast_zero,simprocAttr]
  exact⟨_,rfl,GL.nil⟩
 clear hal h0 a
 rintro i a T hi ⟨hal,h1,h4,hT0,d,h3,hg⟩
 rcases Nat.lt_or_eq_of_le hi with hlt |rfl
 case inr=>
  simp(maxSteps:=1000000)(disch:=omega)only[push_cast,hal,h1,h3,h4,Nat.lt_irrefl,hT0,Tryz.f147,↓WX,simprocAttr]
  exact hg
 obtain⟨T',ha,hg',hlen,-,hrow⟩:=app_z hg (by rw[upTo_len];omega) (limF y i)
 rw[upTo_succ,upTo_len]at hg'
 rw[upTo_len]at ha
 have hT0':=hrow 0 4 _ (by decide) hT0
 by_cases hi0:i=0
 ·have hi1:¬(0:Int)<i:=by omega
  have hl:limF y i=autF y:=by rw[hi0];rfl
  rw[hl]at ha
  simp(maxSteps:=1000000)(disch:=omega)only[push_cast,gt_iff_lt,hal,h1,h3,h4,hlt,hT0,ca,hi1,ha,wrap_ok,Int.natCast_add,Int.natCast_one,↓WX,simprocAttr]
  exact⟨hT0',_,rfl,hg'⟩
 ·have hi1:(0:Int)<i:=by omega
  have hi2:((i:Int)-1).toNat=i-1:=by omega
  have hi3:(0:Int)≤(i:Int)-1:=by omega
  obtain⟨z,hz⟩:∃z,y.cls[i-1]? =some z:=⟨y.cls[i-1],by simp⟩
  have hzp:=hp (i-1) z hz
  have hl:limF y i=autF y-z.prot:=by
   obtain⟨q,rfl⟩:∃q,i=q+1:=⟨i-1,by omega⟩
   simp only[Nat.add_sub_cancel]at hz
   simp[limF,hz]
  rw[hl]at ha
  simp(maxSteps:=1000000)(disch:=omega)only[push_cast,gt_iff_lt,hal,h1,h3,h4,hlt,hT0,ca,hi1,hi2,hi3,hz,ha,Cls.enc,wrap_ok,Int.natCast_add,Int.natCast_one,↓WX,simprocAttr]
  exact⟨hT0',_,rfl,hg'⟩
theorem rLimits_c {n:Nat} {y:Cab} (hn:120≤n) (hy:CabOk y):∃x,∀st S,callD E (dcall E n) st S 147 [.agg y.enc]=some (.sl 1 (rowH y.cls.length (limF y)) x,S):=by
 obtain⟨m,rfl⟩:∃m,n=m+1:=⟨n-1,by omega⟩
 have l1:=hy.l1
 obtain⟨d,T,ho,hg⟩:=rLimits_d (n:=m) (by omega) hy
 obtain⟨d',hf,hd⟩:=hg.fls (zs_pure _)
 rcases hd with ⟨-,h⟩ | ⟨x,rfl⟩
 ·have:=congrArg List.length h
  rw[upTo_len,List.length_nil]at this
  omega
 ·rw[upTo_row]at hf
  exact⟨x,fun st S=>callD_pure rfl (by simp[pureL_cons,pureL_nil,D.pure,Cab_pure]) ho hf⟩
set_option maxHeartbeats 4000000 in
set_option maxRecDepth 100000 in
theorem rRight_c {n k:Nat} {y:Cab} {l:List Int} {S:List Ob} (hl:l.length≤100) (hn:120≤n) (hr:rngI l) (he:l.length=y.cls.length) (hk:S[k]? =some (.row 1 (l.map encZ))) (st:Bool):
  callD E (dcall E n) st S 136 [.agg y.enc,.os k 0 l.length false]=some (.bool true,S):=by
 obtain⟨m,rfl⟩:∃m,n=m+1:=⟨n-1,by omega⟩
 have:WO (dcall E (m+1) 136 [.agg y.enc,.os k 0 l.length false] S) fun r T=>r=.bool true∧ExtS S T:=by
  refine wo_dcall Tryz.func136 rfl (by decide) rfl 30 rfl (fun a hal ha=>?_)
  have h0:a[0]? =some (.agg y.enc):=ha 0 (by simp)
  have h1:a[1]? =some (.os k 0 l.length false):=ha 1 (by simp)
  clear ha
  simp only[Cab.enc]at h0
  have hkx:(S++[cabR y])[k]? =some (.row 1 (l.map encZ)):=get_old hk
  simp(maxSteps:=1000000)(disch:=omega)only[push_cast,h0,↓WX,simprocAttr]
  refine wl_loop (fun i a T=>T=S++[cabR y]∧a.length=30∧a[1]? =some (.os k 0 l.length false)∧a[2]? =some (.loc S.length 0 0)∧a[5]? =some (.int .i64 i)) l.length ?_ (by omega) ?_
  ·simp(maxSteps:=1000000)(disch:=omega)only[push_cast,hal,h1,Int.natCast_zero,simprocAttr]
  clear hal h0 h1 a
  rintro i a T hi ⟨rfl,hal,h1,h2,h5⟩
  rcases Nat.lt_or_eq_of_le hi with hlt |rfl
  case inr=>
   have he':(l.length:Int)=y.cls.length:=by omega
   simp(maxSteps:=1000000)(disch:=omega)only[push_cast,hal,h1,h2,h5,Nat.lt_irrefl,get_end,he',Tryz.f136,↓WX,simprocAttr]
   exact ExtS.app
  obtain⟨v,hv⟩:∃v,l[i]? =some v:=⟨l[i],by simp⟩
  have hb:=hr v (List.mem_of_getElem? hv)
  have q1:¬v<0:=by omega
  have q2:¬(9999:Int)<v:=by omega
  simp(maxSteps:=1000000)(disch:=omega)only[push_cast,gt_iff_lt,hal,h1,h2,h5,hlt,hkx,hv,q1,q2,wrap_ok,Int.natCast_add,Int.natCast_one,↓WX,simprocAttr]
 obtain⟨_,U,ho,rfl,hx⟩:=this
 exact callD_obsS rfl (by simp[pureL_cons,D.pure]) ho hx rfl
set_option maxHeartbeats 4000000 in
set_option maxRecDepth 100000 in
theorem over_c' {n k i:Nat} {y:Cab} {l:List Int} {S:List Ob} (hn:130≤n) (hy:CabOk y) (hr:rngI l) (hl:l.length=y.cls.length) (hi:i<l.length) (hk:S[k]? =some (.row 1 (l.map encZ))) (st:Bool):
  callD E (dcall E n) st S 137 [.agg y.enc,.os k 0 l.length false,.int .i64 i]=some (.int .i64 (-spF y l i),S):=by
 obtain⟨m,rfl⟩:∃m,n=m+1:=⟨n-1,by omega⟩
 have l2:=hy.l2
 obtain⟨x,cl⟩:=rLimits_c (n:=m) (by omega) hy
 rw[←hl]at cl
 have hkx:(S++[cabR y])[k]? =some (.row 1 (l.map encZ)):=get_old hk
 have b1:=limF_le hy i
 have b2:=limF_pos hy i
 have b3:=aut_le hy
 have b4:=drop_bd hr i
 have b5:=drop_bd hr
 have:WO (dcall E (m+1) 137 [.agg y.enc,.os k 0 l.length false,.int .i64 i] S) fun r T=>r=.int .i64 (-spF y l i)∧ExtS S T:=by
  refine wo_dcall Tryz.func137 rfl (by decide) rfl 29 rfl (fun a hal ha=>?_)
  have h0:a[0]? =some (.agg y.enc):=ha 0 (by simp)
  have h1:a[1]? =some (.os k 0 l.length false):=ha 1 (by simp)
  have h2:a[2]? =some (.int .i64 i):=ha 2 (by simp)
  clear ha
  simp only[Cab.enc]at h0 cl
  simp(maxSteps:=1000000)(disch:=omega)only[push_cast,hal,h0,h2,get_end,cl,rowH_get,dUn,wrap_ok,↓WX,simprocAttr]
  refine wl_loop (fun j a T=>T=S++[cabR y]∧a.length=29∧a[1]? =some (.os k 0 l.length false)∧a[7]? =some (.int .i64 ((l.drop i).sum-(l.drop (i+j)).sum-limF y i))∧a[8]? =some (.int .i64 ((i+j:Nat):Int))) (l.length-i) ?_ (by omega) ?_
  ·simp(maxSteps:=1000000)(disch:=omega)only[push_cast,hal,h1,Int.sub_self,simprocAttr]
  clear hal h0 h1 h2 a
  rintro j a T hj ⟨rfl,hal,h1,h7,h8⟩
  rcases Nat.lt_or_eq_of_le hj with hlt |rfl
  case inr=>
   have q:¬((i+(l.length-i):Nat):Int)<l.length:=by omega
   have e:l.drop (i+(l.length-i))=[]:=List.drop_eq_nil_of_le (by omega)
   rw[e,List.sum_nil]at h7
   generalize i+(l.length-i)=p at*
   simp(maxSteps:=1000000)(disch:=omega)only[push_cast,hal,h1,h7,h8,q,Tryz.f137,↓WX,simprocAttr]
   exact⟨by unfold spF;omega,ExtS.app⟩
  obtain⟨p,hp⟩:∃p,p=i+j:=⟨_,rfl⟩
  rw[←hp]at h7 h8
  have hpl:p<l.length:=by omega
  obtain⟨v,hv⟩:∃v,l[p]? =some v:=⟨l[p],by simp⟩
  have hvb:=hr v (List.mem_of_getElem? hv)
  have hsum:=drop_sum hv
  have c1:=b5 p
  have c2:=b5 (p+1)
  have hq:((i+(j+1):Nat):Int)=(p:Int)+1:=by omega
  have hq2:i+(j+1)=p+1:=by omega
  simp(maxSteps:=1000000)(disch:=omega)only[push_cast,hal,h1,h7,h8,hpl,hkx,hv,wrap_ok,↓WX,simprocAttr]
  rw[hq2]
  exact⟨by omega,by omega,by omega⟩
 obtain⟨_,U,ho,rfl,hx⟩:=this
 exact callD_obsS rfl (by simp[pureL_cons,D.pure]) ho hx rfl
def mnF (y:Cab) (l:List Int) (i:Nat):Nat→Int
 |0=>spF y l i
 |k+1=>min (mnF y l i k) (spF y l k)
theorem mnF_av (y:Cab) (l:List Int) (i:Nat):∀k,mnF y l i (k+1)=min (spF y l i) (avF y l k)
 |0=>rfl
 |k+1=>by
  rw[mnF,mnF_av y l i k,avF]
  omega
theorem mnF_self (y:Cab) (l:List Int) (i:Nat):mnF y l i i=avF y l i:=by
 cases i with
 |zero=>rfl
 |succ i=>rw[mnF_av,avF];omega
set_option maxHeartbeats 4000000 in
set_option maxRecDepth 100000 in
theorem rOpen_d {n r:Nat} {y:Cab} {l:List Int} {S:List Ob} (hn:140≤n) (hy:CabOk y) (hr:rngI l) (hl:l.length=y.cls.length) (hk:S[r]? =some (.row 1 (l.map encZ))):
  WO (dcall E (n+1) 111 [.agg y.enc,.os r 0 l.length false] S) fun d T=>∃k,d=.os k 0 l.length false∧T[k]? =some (.row 1 (rowH l.length fun i=>max 0 (avF y l i)))∧S.length≤k∧ExtS S T:=by
 have l1:=hy.l1
 have l2:=hy.l2
 refine wo_dcall Tryz.func111 rfl (by decide) rfl 43 rfl (fun a hal ha=>?_)
 have h0:a[0]? =some (.agg y.enc):=ha 0 (by simp)
 have h1:a[1]? =some (.os r 0 l.length false):=ha 1 (by simp)
 clear ha
 simp only[Cab.enc]at h0
 simp(maxSteps:=1000000)(disch:=omega)only[push_cast,h0,↓WX,simprocAttr]
 refine wl_loop (fun i a T=>a.length=43∧a[1]? =some (.os r 0 l.length false)∧a[2]? =some (.loc S.length 0 0)∧a[6]? =some (.int .i64 i)∧T[S.length]? =some (cabR y)∧ExtS S T∧∃d,a[5]? =some d∧GL 1 encZ T d (upTo (fun i=>max 0 (avF y l i)) i)∧(∀k n,d=.os k 0 n false→S.length<k)) l.length ?_ (by omega) ?_
 ·simp(maxSteps:=1000000)(disch:=omega)only[push_cast,hal,h1,Int.natCast_zero,simprocAttr]
  exact⟨get_end,ExtS.app,_,rfl,GL.nil,fun k n h=>by cases h⟩
 clear hal h0 h1 a
 rintro i a T hi ⟨hal,h1,h2,h6,hT0,hx,d,h5,hg,hd⟩
 have hrT:=hx r _ hk
 have hlT:S.length<T.length:=lt_of_get hT0
 have cr:=rRight_c (n:=n) (y:=y) (by omega) (by omega) hr hl hrT false
 simp only[Cab.enc]at cr
 rcases Nat.lt_or_eq_of_le hi with hlt |rfl
 case inr=>
  rcases hg with ⟨-,h⟩ | ⟨k,rfl,hk'⟩
  ·have:=congrArg List.length h
   rw[upTo_len,List.length_nil]at this
   omega
  ·rw[upTo_row]at hk'
   rw[upTo_len]at h5
   simp(maxSteps:=1000000)(disch:=omega)only[push_cast,hal,h1,h2,h5,h6,Nat.lt_irrefl,hT0,cr,Tryz.f111,↓WX,simprocAttr]
   exact⟨k,rfl,hk',Nat.le_of_lt (hd _ _ rfl),hx⟩
 have co:=fun j (hj:j<l.length)=>over_c' (n:=n) (by omega) hy hr hl hj hrT false
 have coi:=co i hlt
 have hsp:=fun j=>spF_bd hy hr (by omega) j
 have hspi:=hsp i
 simp only[Cab.enc]at coi
 have hneg:IntKind.i64.wrap (0- -spF y l i)=spF y l i:=by rw[wrap_ok (by omega) (by omega)];omega
 simp(maxSteps:=1000000)(disch:=omega)only[push_cast,hal,h1,h2,h6,hlt,hT0,cr,coi,dUn,hneg,↓WX,simprocAttr]
 refine wl_loop (fun k b U=>U=T∧b.length=43∧b[1]? =some (.os r 0 l.length false)∧b[2]? =some (.loc S.length 0 0)∧b[5]? =some d∧b[6]? =some (.int .i64 i)∧b[7]? =some (.int .i64 (mnF y l i k))∧b[8]? =some (.int .i64 k)) i ?_ (by omega) ?_
 ·simp(maxSteps:=1000000)(disch:=omega)only[push_cast,hal,h1,h2,h5,h6,Int.natCast_zero,mnF,simprocAttr]
 clear hal h1 h2 h5 h6 a
 rintro k a U hk' ⟨rfl,hal,h1,h2,h5,h6,h7,h8⟩
 rcases Nat.lt_or_eq_of_le hk' with hlk |rfl
 case inr=>
  rw[mnF_self]at h7
  have hav:=avF_bd hy hr (by omega) k
  have hmax:(if avF y l k<0 then 0 else avF y l k)=max 0 (avF y l k):=by split <;> omega
  obtain⟨T',ha,hg',hlen,hkeep,hrow⟩:=app_z hg (by rw[upTo_len];omega) (max 0 (avF y l k))
  rw[upTo_succ (fun i=>max 0 (avF y l i)),upTo_len]at hg'
  rw[upTo_len]at ha
  have hT0':=hrow _ 4 _ (by decide) hT0
  simp(maxSteps:=1000000)(disch:=omega)only[push_cast,hal,h1,h2,h5,h6,h7,h8,Nat.lt_irrefl,hmax,ha,hlt,wrap_ok,Int.natCast_add,Int.natCast_one,↓WX,simprocAttr]
  refine⟨hT0',fun j o hj=>hkeep j o (fun n e=>?_) (hx j o hj),_,rfl,hg',fun j n e=>?_⟩
  ·have:=hd _ _ e
   have:=lt_of_get hj
   omega
  ·injection e with e1;omega
 have cok:=co k (by omega)
 simp only[Cab.enc]at cok
 have hspk:=hsp k
 have hnegk:IntKind.i64.wrap (0- -spF y l k)=spF y l k:=by rw[wrap_ok (by omega) (by omega)];omega
 have hmin:(if spF y l k<mnF y l i k then spF y l k else mnF y l i k)=mnF y l i (k+1):=by rw[mnF];split <;> omega
 simp(maxSteps:=1000000)(disch:=omega)only[push_cast,hal,h1,h2,h5,h6,h7,h8,hlk,hT0,cok,dUn,hnegk,hmin,wrap_ok,Int.natCast_add,Int.natCast_one,↓WX,simprocAttr]
theorem rOpen_c {n r:Nat} {y:Cab} {l:List Int} {S:List Ob} (hn:150≤n) (hy:CabOk y) (hr:rngI l) (hl:l.length=y.cls.length) (hk:S[r]? =some (.row 1 (l.map encZ))):
  ∃k T,(∀st,callD E (dcall E n) st S 111 [.agg y.enc,.os r 0 l.length false]=some (.os k 0 l.length false,T))∧T[k]? =some (.row 1 (rowH l.length fun i=>max 0 (avF y l i)))∧S.length≤k∧ExtS S T:=by
 obtain⟨m,rfl⟩:∃m,n=m+1:=⟨n-1,by omega⟩
 obtain⟨d,T,ho,k,rfl,h1,h2,h3⟩:=rOpen_d (n:=m) (by omega) hy hr hl hk
 exact⟨k,T,fun st=>callD_extS rfl ho h3,h1,h2,h3⟩
end Go.Proofs.YtkemehicndccmaaGreatDoor.Dm
namespace Go.Proofs.YtkemehicndccmaaGreatDoor.Dm
open Go Gw
set_option linter.unusedSimpArgs false
set_option linter.unusedSimpArgs false

/-! ### Keys and pointers -/
theorem lit_ok {n:Int} (h: -9223372036854775808≤n∧n≤9223372036854775807):(Lit.int .i64 n).wf=true:=by
 unfold Lit.wf
 rw[Bool.and_eq_true,decide_eq_true_eq,decide_eq_true_eq]
 exact h
set_option maxRecDepth 100000 in
theorem keyOk_lid {id:Lid} (h:id.Ok):keyOk Tryz.prog 50 (.agg id.enc)=true:=by
 obtain⟨c,n,d,f⟩:=id
 obtain⟨h1,h2,h3,h4,-⟩:=h
 have hk:Tryz.prog.keyType 50=true:=by kernel_rfl
 have z0:Tryz.prog.cellsOf 50=4:=by kernel_rfl
 have z1:Tryz.prog.cellsOf 9=1:=by kernel_rfl
 have z2:Tryz.prog.cellsOf 3=1:=by kernel_rfl
 have m1:c.size≤maxLen:=by simp only[maxLen];exact h1
 have m4:f.size≤maxLen:=by simp only[maxLen];exact h4
 have w2:=lit_ok h2
 have w3:=lit_ok h3
 obtain⟨q,hq⟩:∃q,Tryz.prog.types.size+1=q+1+1:=by
  have:Nat.ble 1 Tryz.prog.types.size=true:=by kernel_rfl
  have:=Nat.le_of_ble_eq_true this
  exact⟨Tryz.prog.types.size-1,by omega⟩
 unfold keyOk
 simp only[litV,Lid.enc,litCs,litC,Option.map_some]
 unfold keyOf
 rw[Tryz.underlying50]
 dsimp only
 rw[hk,hq]
 simp[Value.formed,Tryz.underlying50,z0,Program.keyLits,Value.cells,Tryz.underlying9,Tryz.underlying3,z1,z2,m1,m4,w2,w3]
set_option maxRecDepth 100000 in
theorem eq_lid (a b:Lid):dEq Tryz.prog 10000 50 (.agg a.enc) (.agg b.enc)=some (decide (a=b)):=by
 obtain⟨c,n,d,f⟩:=a
 obtain⟨c',n',d',f'⟩:=b
 rw[show (10000:Nat)=9998+1+1 from rfl]
 have hs:Tryz.prog.stoodInHeld 50=false:=by kernel_rfl
 simp only[Lid.mk.injEq]
 by_cases e1:c=c' <;> by_cases e2:n=n' <;> by_cases e3:d=d' <;> by_cases e4:f=f' <;> simp(decide:=true)only[push_cast,Lid.enc,dEq,dEqs,beq_self_eq_true,bytes_refl,hs,str_eq',e1,e2,e3,e4,decide_false,decide_true]
theorem plain_lid:plainEqT Tryz.prog 50=true:=by kernel_rfl
theorem keys_lid:E.keys 50=true:=by kernel_rfl
theorem eqp_loc {k i o:Nat} {t e:TypeId} {P:Program} (ht:P.underlying t=some (.pointer e)):dEq P 10000 t (.loc k i o) .nilp=some false:=by
 rw[show (10000:Nat)=9999+1 from rfl]
 simp only[dEq,ht]
theorem eqp_nil {t e:TypeId} {P:Program} (ht:P.underlying t=some (.pointer e)):dEq P 10000 t .nilp .nilp=some true:=by
 rw[show (10000:Nat)=9999+1 from rfl]
 simp only[dEq,ht]
theorem eqm_map {k:Nat} {t a b:TypeId} {P:Program} (ht:P.underlying t=some (.map a b)):dEq P 10000 t (.map k) .nilm=some false:=by
 rw[show (10000:Nat)=9999+1 from rfl]
 simp only[dEq,ht]
theorem eqp_stk {k i o:Nat}:dEq Tryz.prog 10000 42 (.loc k i o) .nilp=some false:=eqp_loc Tryz.underlying42
theorem eqp_leg {k i o:Nat}:dEq Tryz.prog 10000 137 (.loc k i o) .nilp=some false:=eqp_loc Tryz.underlying137
theorem eqp_leg0:dEq Tryz.prog 10000 137 .nilp .nilp=some true:=eqp_nil Tryz.underlying137
theorem eqm_legs {k:Nat}:dEq Tryz.prog 10000 134 (.map k) .nilm=some false:=eqm_map Tryz.underlying134
section
variable {S : List Ob} {lab : Lab} {o k m n : Nat} {c0 : D} {ps : List (D × D)}
theorem made_c (hn:1≤n) (hk:S[k]? =some (.row 2 [[c0,.map m]])) (st:Bool):callD E (dcall E n) st S 49 [.loc k 0 0]=some (.bool true,S):=by
 obtain⟨q,rfl⟩:∃q,n=q+1:=⟨n-1,by omega⟩
 have:WO (dcall E (q+1) 49 [.loc k 0 0] S) fun d T=>d=.bool true∧T=S:=by
  refine wo_dcall Tryz.func49 rfl (by decide) rfl 12 rfl (fun a hal ha=>?_)
  have h0:a[0]? =some (.loc k 0 0):=ha 0 (by simp)
  clear ha
  simp(maxSteps:=1000000)(disch:=omega)only[push_cast,hal,h0,hk,eqp_stk,eqm_legs,Tryz.f49,↓WX,simprocAttr]
 obtain⟨d,T,ho,rfl,rfl⟩:=this
 exact callD_obs rfl rfl ho rfl
theorem get_c (hn:2≤n) (hk:S[k]? =some (.row 2 [[c0,.map m]])) (hm:S[m]? =some (.map 50 ps)) {id:Lid} (hid:id.Ok):
  callD E (dcall E n) false S 74 [.loc k 0 0,.agg id.enc]=some ((lookM ps (.agg id.enc)).getD .nilp,S++[.row 4 [id.enc]]):=by
 obtain⟨q,rfl⟩:∃q,n=q+1:=⟨n-1,by omega⟩
 have hkx:(S++[Ob.row 4 [id.enc]])[k]? =some (.row 2 [[c0,.map m]]):=get_old hk
 have hmx:(S++[Ob.row 4 [id.enc]])[m]? =some (.map 50 ps):=get_old hm
 have cm:=made_c (n:=q) (by omega) hkx
 have kl:=keyOk_lid hid
 have ks:=keys_lid
 have:WO (dcall E (q+1) 74 [.loc k 0 0,.agg id.enc] S) fun d T=>d=(lookM ps (.agg id.enc)).getD .nilp∧T=S++[.row 4 [id.enc]]:=by
  refine wo_dcall Tryz.func74 rfl (by decide) rfl 14 rfl (fun a hal ha=>?_)
  have h0:a[0]? =some (.loc k 0 0):=ha 0 (by simp)
  have h1:a[1]? =some (.agg id.enc):=ha 1 (by simp)
  clear ha
  simp only[Lid.enc]at h1 hkx hmx cm kl
  generalize hv:lookM ps (.agg id.enc)=v
  simp only[Lid.enc]at hv ⊢
  rcases v with _ |v
  ·simp(maxSteps:=1000000)(disch:=omega)only[push_cast,hal,h0,h1,hkx,hmx,cm,kl,ks,hv,dUn,get_end,Tryz.f74,↓WX,simprocAttr]
  ·simp(maxSteps:=1000000)(disch:=omega)only[push_cast,hal,h0,h1,hkx,hmx,cm,kl,ks,hv,dUn,get_end,Tryz.f74,↓WX,simprocAttr]
 obtain⟨d,T,ho,rfl,rfl⟩:=this
 exact (callD_own rfl rfl).trans ho
end

/-! ### A leg -/
theorem LegOk.rng {l:List Cfg} {B:Int} {x:Leg} (h:LegOk l B x) (hB:B≤9999) {i:Nat} {r:List Int} (hr:x.sold[i]? =some r):rngI r:=fun v hv=>by
 obtain⟨h1,h2⟩:=h.row hr
 obtain⟨k,hk⟩:=List.mem_iff_getElem?.1 hv
 have:=sum_at h1 hk
 have:=h1 v hv
 omega
theorem LegAt.parts {S:List Ob} {lab:Lab} {o i p:Nat} {x:Leg} (h:LegAt S lab o i p x):∃q es,S[p]? =some (.row 4 [[.str x.cfg.equip,.sl 4 (x.cfg.cabs.map Cab.enc) x.cfg.cabsx,.os q 0 x.sold.length false,.bool x.closed]])∧S[q]? =some (.row 1 es)∧lab q=[o,2,i]∧
  ∀(j:Nat) (row:List Int),x.sold[j]? =some row→∃r,es[j]? =some [.os r 0 row.length false]∧lab r=[o,3,i,j]∧S[r]? =some (.row 1 (row.map encZ)):=by
 obtain⟨-,d,h1,q,r,es,rfl,h2,h3,h4,h5⟩:=h
 exact⟨q,es,h1,h3,h2,fun j row hj=>⟨r j,h5 j row hj⟩⟩
section
variable {S : List Ob} {lab : Lab} {o i p n : Nat} {x : Leg} {l : List Cfg}
set_option maxHeartbeats 4000000 in
set_option maxRecDepth 100000 in
theorem left_c (hn:170≤n) (h:LegAt S lab o i p x) (ok:LegOk l 9999 x) (cl:ByteArray) (st:Bool):callD E (dcall E n) st S 59 [.loc p 0 0,.str cl]=some (.int .i64 (leftF x cl),S):=by
 obtain⟨m,rfl⟩:∃m,n=m+1:=⟨n-1,by omega⟩
 obtain⟨q,es,hp,hq,-,hr⟩:=h.parts
 have cp:=Place_c (n:=m) (cl:=cl) (by omega) ok.cfg.sm
 have hl4:=ok.cfg.l2
 have:WO (dcall E (m+1) 59 [.loc p 0 0,.str cl] S) fun d T=>d=.int .i64 (leftF x cl)∧ExtS S T:=by
  refine wo_dcall Tryz.func59 rfl (by decide) rfl 45 rfl (fun a hal ha=>?_)
  have h0:a[0]? =some (.loc p 0 0):=ha 0 (by simp)
  have h1:a[1]? =some (.str cl):=ha 1 (by simp)
  clear ha
  simp only[Cfg.enc]at cp
  unfold leftF
  rcases hpl:placeF cl 0 x.cfg.cabs with _ | ⟨a',b'⟩
  ·rw[hpl]at cp
   simp only[placeD]at cp
   simp(maxSteps:=1000000)(disch:=omega)only[push_cast,hal,h0,h1,hp,cp,dUn,Tryz.f59,↓WX,simprocAttr]
   exact ExtS.refl
  ·rw[hpl]at cp
   simp only[placeD]at cp
   obtain⟨y,row,z,v,h1',h2,h3,h4,h5,h6,h7⟩:=ok.at_ hpl
   obtain⟨r,hr1,-,hr3⟩:=hr a' row h2
   have hrow:=ok.rng (by omega) h2
   have hb:b'<row.length:=lt_of_get h5
   have ha:a'<x.sold.length:=lt_of_get h2
   obtain⟨k0,T0,co,hk0,-,hx0⟩:=Open_c (n:=m) (by omega) h7 hrow h6 hr3
   have hge:¬((row.length:Int)≤b'):=by omega
   dsimp only
   rw[h1',h2]
   dsimp only
   simp only[Cab.enc]at co
   simp(maxSteps:=1000000)(disch:=omega)only[push_cast,hal,h0,h1,hp,hq,hr1,h1',cp,co,hk0,hge,ha,hb,rowH_get,Cab.enc,dUn,Tryz.f59,↓WX,simprocAttr]
   exact fun k x hk=>hx0 k x hk
 obtain⟨d,T,ho,rfl,hx⟩:=this
 exact callD_obsS rfl rfl ho hx rfl
end

/-! ### The inventory -/
abbrev kL:TypeId:=50
theorem StkAt.push {S:List Ob} {lab:Lab} {o:Nat} {d:D} {s:Stk} {k m:Nat} {ps:List (D×D)} (h:StkAt S lab o kL d s k m ps) (J:List Ob):StkAt (S++J) lab o kL d s k m ps:=h.keep KeepO.push
theorem legAt_push {S:List Ob} {lab:Lab} {o i p:Nat} {x:Leg} (h:LegAt S lab o i p x) (J:List Ob):LegAt (S++J) lab o i p x:=h.keep KeepO.push
section
variable {S : List Ob} {lab : Lab} {o k m n : Nat} {s : Stk} {ps : List (D × D)} {id : Lid}
theorem get_at (hn:2≤n) (h:StkAt S lab o kL (.loc k 0 0) s k m ps) (hid:id.Ok):(s.get id=none∧callD E (dcall E n) false S 74 [.loc k 0 0,.agg id.enc]=some (.nilp,S++[.row 4 [id.enc]]))∨
  ∃i p x,s.get id=some x∧callD E (dcall E n) false S 74 [.loc k 0 0,.agg id.enc]=some (.loc p 0 0,S++[.row 4 [id.enc]])∧LegAt S lab o i p x:=by
 have hg:=get_c hn h.row h.map hid
 rcases h.look id with ⟨h1,h2⟩ | ⟨i,x,p,-,-,h1,h2,-,h3⟩
 ·rw[h2]at hg
  exact .inl ⟨h1,hg⟩
 ·rw[h2]at hg
  exact .inr ⟨i,p,x,h1,hg,h3⟩
set_option maxHeartbeats 4000000 in
set_option maxRecDepth 100000 in
theorem Left_c (hn:180≤n) (h:StkAt S lab o kL (.loc k 0 0) s k m ps) (ok:StkOk 9999 s) (hid:id.Ok) (cl:ByteArray) (st:Bool):
  callD E (dcall E n) st S 30 [.loc k 0 0,.agg id.enc,.str cl]=some (.int .i64 (s.left id cl),S):=by
 obtain⟨q,rfl⟩:∃q,n=q+1:=⟨n-1,by omega⟩
 have:WO (dcall E (q+1) 30 [.loc k 0 0,.agg id.enc,.str cl] S) fun d T=>d=.int .i64 (s.left id cl)∧ExtS S T:=by
  refine wo_dcall Tryz.func30 rfl (by decide) rfl 22 rfl (fun a hal ha=>?_)
  have h0:a[0]? =some (.loc k 0 0):=ha 0 (by simp)
  have h1:a[1]? =some (.agg id.enc):=ha 1 (by simp)
  have h2:a[2]? =some (.str cl):=ha 2 (by simp)
  clear ha
  unfold Stk.left
  rcases get_at (n:=q) (by omega) (h.push [.row 4 [id.enc]]) hid with ⟨e,cg⟩ | ⟨i,p,x,e,cg,hx⟩
  ·rw[e]
   simp only[Lid.enc]at h1 cg
   simp(maxSteps:=1000000)(disch:=omega)only[push_cast,hal,h0,h1,get_end,cg,eqp_leg0,Tryz.f30,↓WX,simprocAttr]
   exact fun j y hj=>get_old (get_old hj)
  ·rw[e]
   have cl':=left_c (n:=q) (by omega) (legAt_push hx [.row 4 [id.enc]]) (ok.get e) cl
   obtain⟨qq,es,hp,-,-,-⟩:=(legAt_push hx [.row 4 [id.enc]]).parts
   dsimp only
   simp only[Lid.enc]at h1 cg cl' hp
   cases hc:x.closed
   ·rw[hc]at hp
    rw[if_neg (by simp)]
    simp(maxSteps:=1000000)(disch:=omega)only[push_cast,hal,h0,h1,h2,get_end,cg,eqp_leg,hp,cl',Tryz.f30,↓WX,simprocAttr]
    exact fun j y hj=>get_old (get_old hj)
   ·rw[hc]at hp
    rw[if_pos rfl]
    simp(maxSteps:=1000000)(disch:=omega)only[push_cast,hal,h0,h1,get_end,cg,eqp_leg,hp,Tryz.f30,↓WX,simprocAttr]
    exact fun j y hj=>get_old (get_old hj)
 obtain⟨d,T,ho,rfl,hx⟩:=this
 exact callD_obsS rfl rfl ho hx rfl
def equipD:Option ByteArray→D
 |some e=>.tup [.str e,.bool true]
 |none=>.tup [.str (ByteArray.mk #[]),.bool false]
theorem equipD_pure (o:Option ByteArray):(equipD o).pure=true:=by cases o <;> rfl
set_option maxHeartbeats 4000000 in
set_option maxRecDepth 100000 in
theorem Equip_c (hn:180≤n) (h:StkAt S lab o kL (.loc k 0 0) s k m ps) (hid:id.Ok) (st:Bool):
  callD E (dcall E n) st S 73 [.loc k 0 0,.agg id.enc]=some (equipD (s.equip id),S):=by
 obtain⟨q,rfl⟩:∃q,n=q+1:=⟨n-1,by omega⟩
 have:WO (dcall E (q+1) 73 [.loc k 0 0,.agg id.enc] S) fun d T=>d=equipD (s.equip id)∧ExtS S T:=by
  refine wo_dcall Tryz.func73 rfl (by decide) rfl 17 rfl (fun a hal ha=>?_)
  have h0:a[0]? =some (.loc k 0 0):=ha 0 (by simp)
  have h1:a[1]? =some (.agg id.enc):=ha 1 (by simp)
  clear ha
  unfold Stk.equip
  rcases get_at (n:=q) (by omega) (h.push [.row 4 [id.enc]]) hid with ⟨e,cg⟩ | ⟨i,p,x,e,cg,hx⟩
  ·rw[e]
   simp only[Lid.enc]at h1 cg
   simp(maxSteps:=1000000)(disch:=omega)only[push_cast,hal,h0,h1,get_end,cg,eqp_leg0,equipD,Tryz.f73,↓WX,simprocAttr]
   exact fun j y hj=>get_old (get_old hj)
  ·rw[e]
   obtain⟨qq,es,hp,-,-,-⟩:=(legAt_push hx [.row 4 [id.enc]]).parts
   simp only[Lid.enc]at h1 cg hp
   simp(maxSteps:=1000000)(disch:=omega)only[push_cast,hal,h0,h1,get_end,cg,eqp_leg,hp,equipD,Tryz.f73,↓WX,simprocAttr]
   exact fun j y hj=>get_old (get_old hj)
 obtain⟨d,T,ho,rfl,hx⟩:=this
 exact callD_obsS rfl rfl ho hx (equipD_pure _)
theorem leg_sizes {l:List Cfg} {B:Int} {x:Leg} (ok:LegOk l B x) {c:Nat} {y:Cab} (hy:x.cfg.cabs[c]? =some y):∃row,x.sold[c]? =some row∧row.length=y.cls.length∧CabOk y:=by
 have hc:c<x.sold.length:=by rw[ok.len];exact lt_of_get hy
 exact⟨x.sold[c],List.getElem?_eq_getElem hc,ok.rows c y _ hy (List.getElem?_eq_getElem hc),ok.cfg.cab y (List.mem_of_getElem? hy)⟩
def excT (x:Leg):Nat→Int
 |0=>0
 |c+1=>match x.cfg.cabs[c]?,x.sold[c]? with
  |some y,some row=>max (excT x c) (excF y row row.length)
  |_,_=>excT x c
end
end Go.Proofs.YtkemehicndccmaaGreatDoor.Dm
