/-
  The machine at the classes of a cabin: what is right, limits, what is left below them.
-/
import Derived.Test.YtkemehicndccmaaGreatDoorSkK
import Derived.Test.YtkemehicndccmaaGreatDoorWq
set_option linter.unusedSimpArgs false
set_option linter.unusedVariables false
namespace Go.Proofs.YtkemehicndccmaaGreatDoor.Dm
open Go Gw
set_option linter.unusedSimpArgs false
set_option linter.unusedSimpArgs false

/-! ### Words -/
theorem exts_split {S T:List Ob} (h:ExtS S T):∃J,T=S++J:=by
 refine⟨T.drop S.length,List.ext_getElem? fun k=>?_⟩
 by_cases hk:k<S.length
 ·rw[List.getElem?_append_left hk,List.getElem?_eq_getElem hk]
  exact h k _ (List.getElem?_eq_getElem hk)
 ·rw[List.getElem?_append_right (by omega),List.getElem?_drop]
  congr 1
  omega
theorem Gw.ExtS.app {S J:List Ob}:ExtS S (S++J):=fun _ _ h=>get_old h
theorem Gw.ExtS.set {S T:List Ob} (h:ExtS S T) {k:Nat} (hk:S.length≤k) (o:Ob):ExtS S (T.set k o):=fun j x hj=>by
 have:=lt_of_get hj
 rw[List.getElem?_set_ne (by omega)]
 exact h j x hj
theorem Gw.ExtS.len {S T:List Ob} (h:ExtS S T):S.length≤T.length:=by
 obtain⟨J,rfl⟩:=exts_split h
 rw[List.length_append];omega
section
variable {call : Call} {st : Bool} {S : List Ob} {f : FuncId} {args : List D} {d d' : D} {T : List Ob}
theorem callD_extS (hm:E.mode f=.ext) (h:call f args S=some (d,T)) (g:ExtS S T):callD E call st S f args=some (d,T):=by
 obtain⟨J,rfl⟩:=exts_split g
 exact callD_ext hm h
theorem callD_obsS (hm:E.mode f=.obs) (hp:pureL args=false) (h:call f args S=some (d,T)) (g:ExtS S T) (hd:d.pure=true):callD E call st S f args=some (d,S):=by
 obtain⟨J,rfl⟩:=exts_split g
 exact callD_obsJ hm hp h hd
end
theorem get_end1 {α:Type} {l:List α} {x y:α}:(l++[x]++[y])[l.length+1]? =some y:=by
 rw[List.getElem?_append_right (by simp)];simp
theorem get_end0 {α:Type} {l:List α} {x y:α}:(l++[x]++[y])[l.length]? =some x:=by
 rw[List.append_assoc,List.getElem?_append_right (by simp)];simp
def rowH (n:Nat) (h:Nat→Int):List (List D):=(List.range n).map fun j=>encZ (h j)
theorem rowH_len (n:Nat) (h:Nat→Int):(rowH n h).length=n:=by simp[rowH]
theorem rowH_get {n:Nat} {h:Nat→Int} {j:Nat} (hj:j<n):(rowH n h)[j]? =some [.int .i64 (h j)]:=by
 unfold rowH
 rw[List.getElem?_map,List.getElem?_range hj];rfl
theorem rowH_set {n:Nat} {h:Nat→Int} {i:Nat} {v:Int}:(rowH n h).set i [.int .i64 v]=rowH n fun j=>if j=i then v else h j:=by
 refine List.ext_getElem? fun j=>?_
 by_cases hj:j<n
 ·rw[rowH_get hj,List.getElem?_set,rowH_len]
  by_cases e:i=j
  ·subst e;simp[hj]
  ·have e':¬j=i:=fun x=>e x.symm
   simp[e,e',rowH_get hj]
 ·rw[List.getElem?_eq_none (by rw[List.length_set,rowH_len];omega),List.getElem?_eq_none (by rw[rowH_len];omega)]
theorem rowH_congr {n:Nat} {h g:Nat→Int} (e:∀j,j<n→h j=g j):rowH n h=rowH n g:=by
 unfold rowH
 exact List.map_congr_left fun j hj=>by rw[e j (by simpa using hj)]
theorem rowH_zero (n:Nat):List.replicate n [D.int .i64 0]=rowH n fun _=>0:=by
 refine List.ext_getElem? fun j=>?_
 by_cases hj:j<n
 ·rw[rowH_get hj,List.getElem?_replicate,if_pos hj]
 ·rw[List.getElem?_eq_none (by rw[List.length_replicate];omega),List.getElem?_eq_none (by rw[rowH_len];omega)]
theorem zs_pure (l:List Int):pureLL (l.map encZ)=true:=by
 induction l with
 |nil=>rfl
 |cons f fs ih=>rw[List.map_cons,pureLL_cons,ih];rfl
def rngI (l:List Int):Prop:=∀v∈l,0≤v∧v≤9999
theorem sum_bd:∀ {l:List Int},rngI l→0≤l.sum∧l.sum≤9999*l.length
 | [],_=>by simp
 |a::l,h=>by
  have:=sum_bd (l:=l) (fun v hv=>h v (by simp[hv]))
  have:=h a (by simp)
  simp only[List.sum_cons,List.length_cons];omega
theorem drop_bd {l:List Int} (h:rngI l) (k:Nat):0≤(l.drop k).sum∧(l.drop k).sum≤9999*l.length:=by
 have:=sum_bd (l:=l.drop k) (fun v hv=>h v (List.mem_of_mem_drop hv))
 have hl:(l.drop k).length≤l.length:=by simp
 omega
theorem drop_sum {l:List Int} {i:Nat} {v:Int} (h:l[i]? =some v):(l.drop i).sum=v+(l.drop (i+1)).sum:=by
 rw[drop_at h,List.sum_cons]

/-! ### Numbers that are right -/
def outB (v:Int):Bool:=decide (v<0) || decide (9999<v)
def rightB (y:Cab) (sold:List Int):Bool:=decide (sold.length=y.cls.length) && !sold.any outB
theorem right1_c {n:Nat} (hn:1≤n) (v:Int) (st:Bool) (S:List Ob):callD E (dcall E n) st S 144 [.int .i64 v]=some (.bool (outB v),S):=by
 obtain⟨m,rfl⟩:∃m,n=m+1:=⟨n-1,by omega⟩
 have:WO (dcall E (m+1) 144 [.int .i64 v] []) fun d T=>d=.bool (outB v):=by
  refine wo_dcall Tryz.func144 rfl (by decide) rfl 9 rfl (fun a hal ha=>?_)
  have h0:a[0]? =some (.int .i64 v):=ha 0 (by simp)
  clear ha
  unfold outB
  by_cases q:v<0
  ·simp(maxSteps:=1000000)(disch:=omega)only[push_cast,hal,h0,q,decide_true,Bool.true_or,Tryz.f144,↓WX,simprocAttr]
  ·simp(maxSteps:=1000000)(disch:=omega)only[push_cast,gt_iff_lt,hal,h0,q,decide_false,Bool.false_or,Tryz.f144,↓WX,simprocAttr]
 obtain⟨d,T,ho,rfl⟩:=this
 exact callD_pure rfl rfl ho rfl
set_option maxHeartbeats 4000000 in
set_option maxRecDepth 100000 in
theorem idxI_d {n k:Nat} {l:List Int} {S:List Ob} (hl:l.length≤100) (hn:110≤n) (hk:S[k]? =some (.row 1 (l.map encZ))):
  WO (dcall E (n+1) 156 [.os k 0 l.length false,.func 144 [] []] S) fun r T=>r=.int .i64 (fdx outB 0 l)∧T=S:=by
 refine wo_dcall Tryz.func156 rfl (by decide) rfl 19 rfl (fun a hal ha=>?_)
 have h0:a[0]? =some (.os k 0 l.length false):=ha 0 (by simp)
 have h1:a[1]? =some (.func 144 [] []):=ha 1 (by simp)
 clear ha
 have cc:=right1_c (n:=n) (by omega)
 simp(maxSteps:=1000000)(disch:=omega)only[push_cast,hal,h0,↓WX,simprocAttr]
 refine wl_loop (fun i a T=>T=S∧a.length=19∧a[0]? =some (.os k 0 l.length false)∧a[1]? =some (.func 144 [] [])∧a[7]? =some (.int .i64 l.length)∧a[8]? =some (.int .i64 i)∧fdx outB 0 l=fdx outB i (l.drop i)) l.length ?_ (by omega) ?_
 ·simp(maxSteps:=1000000)(disch:=omega)only[push_cast,hal,h0,h1,Int.natCast_zero,simprocAttr]
 clear hal h0 h1 a
 rintro i a T hi ⟨rfl,hal,h0,h1,h7,h8,hv⟩
 rcases Nat.lt_or_eq_of_le hi with hlt |rfl
 case inr=>
  rw[List.drop_length,fdx]at hv
  simp(maxSteps:=1000000)(disch:=omega)only[push_cast,hal,h7,h8,Nat.lt_irrefl,Tryz.f156,↓WX,simprocAttr]
  exact hv.symm
 obtain⟨v,hq⟩:∃v,l[i]? =some v:=⟨l[i],by simp⟩
 rw[drop_at hq,fdx]at hv
 have cv:=cc v
 cases hp:outB v
 ·rw[hp,if_neg (by simp)]at hv
  rw[hp]at cv
  simp(maxSteps:=1000000)(disch:=omega)only[push_cast,hal,h0,h1,h7,h8,↓wo_callv,callV_func,hlt,hq,hk,cv,wrap_ok,List.nil_append,List.append_nil,Int.natCast_add,Int.natCast_one,↓WX,simprocAttr]
  exact hv
 ·rw[hp,if_pos rfl]at hv
  rw[hp]at cv
  simp(maxSteps:=1000000)(disch:=omega)only[push_cast,hal,h0,h1,h7,h8,↓wo_callv,callV_func,hlt,hq,hk,cv,List.nil_append,List.append_nil,Tryz.f156,↓WX,simprocAttr]
  exact hv.symm
set_option maxHeartbeats 4000000 in
theorem right_c {n k:Nat} {y:Cab} {l:List Int} {S:List Ob} (hl:l.length≤100) (hn:120≤n) (hy:y.cls.length≤100) (hk:S[k]? =some (.row 1 (l.map encZ))) (st:Bool):
  callD E (dcall E n) st S 134 [.agg y.enc,.os k 0 l.length false]=some (.bool (rightB y l),S):=by
 obtain⟨m,rfl⟩:∃m,n=m+3:=⟨n-3,by omega⟩
 have hkx:(S++[Ob.row 4 [y.enc]])[k]? =some (.row 1 (l.map encZ)):=get_old hk
 have c1:∀T,T[k]? =some (.row 1 (l.map encZ))→callD E (dcall E (m+1)) false T 156 [.os k 0 l.length false,.func 144 [] []]=some (.int .i64 (fdx outB 0 l),T):=fun T hT=>by
  obtain⟨_,T',ho,rfl,rfl⟩:=idxI_d (n:=m) hl (by omega) hT
  exact (callD_own rfl (by simp[pureL_cons,D.pure])).trans ho
 have c2:∀T,T[k]? =some (.row 1 (l.map encZ))→callD E (dcall E (m+2)) false T 143 [.os k 0 l.length false,.func 144 [] []]=some (.bool (l.any outB),T):=fun T hT=>by
  have q1:=c1 T hT
  have:WO (dcall E (m+2) 143 [.os k 0 l.length false,.func 144 [] []] T) fun r U=>r=.bool (l.any outB)∧U=T:=by
   refine wo_dcall Tryz.func143 rfl (by decide) rfl 9 rfl (fun a hal ha=>?_)
   have h0:a[0]? =some (.os k 0 l.length false):=ha 0 (by simp)
   have h1:a[1]? =some (.func 144 [] []):=ha 1 (by simp)
   clear ha
   rw[←fdx_any outB l 0]
   simp(maxSteps:=1000000)(disch:=omega)only[push_cast,hal,h0,h1,q1,ge_iff_le,Tryz.f143,↓WX,simprocAttr]
  obtain⟨_,U,ho,rfl,rfl⟩:=this
  exact (callD_own rfl (by simp[pureL_cons,D.pure])).trans ho
 have c3:=c2 _ hkx
 have:WO (dcall E (m+3) 134 [.agg y.enc,.os k 0 l.length false] S) fun r T=>r=.bool (rightB y l)∧ExtS S T:=by
  refine wo_dcall Tryz.func134 rfl (by decide) rfl 14 rfl (fun a hal ha=>?_)
  have h0:a[0]? =some (.agg y.enc):=ha 0 (by simp)
  have h1:a[1]? =some (.os k 0 l.length false):=ha 1 (by simp)
  clear ha
  unfold rightB
  obtain⟨yn,ys,yo,yc,yx⟩:=y
  simp only[Cab.enc]at h0 c3
  by_cases q:l.length=yc.length
  ·have q':(l.length:Int)=yc.length:=by omega
   simp(maxSteps:=1000000)(disch:=omega)only[push_cast,not_true_eq_false,hal,h0,h1,get_end,q',c3,Bool.true_and,dUn,Tryz.f134,↓WX,simprocAttr]
   simp[q,ExtS.app]
  ·have q':¬(l.length:Int)=yc.length:=by omega
   simp(maxSteps:=1000000)(disch:=omega)only[push_cast,not_false_eq_true,hal,h0,h1,get_end,q',Bool.false_and,Tryz.f134,↓WX,simprocAttr]
   simp[q,ExtS.app]
 obtain⟨_,U,ho,rfl,hx⟩:=this
 exact callD_obsS rfl (by simp[pureL_cons,D.pure]) ho hx rfl

theorem mkI {S:List Ob} {n:Nat} (hn:n≤100000):dMakeSlice Tryz.prog S 120 n n=some (.os S.length 0 n false,S++[.row 1 (rowH n fun _=>0)]):=by
 have h1:elemT Tryz.prog 120=some 3:=by kernel_rfl
 have h2:sizeT Tryz.prog 3=some 1:=by kernel_rfl
 have h3:zeroT Tryz.prog 3=some (.int .i64 0):=by kernel_rfl
 have h4:bytesT Tryz.prog 3=8:=by kernel_rfl
 unfold dMakeSlice
 rw[h1]
 dsimp only
 rw[h2,h3]
 dsimp only
 rw[h4,if_pos,Int.toNat_natCast]
 ·show some (D.os S.length 0 n false,S++[Ob.row 1 (List.replicate n [D.int .i64 0])])=_
  rw[rowH_zero]
 ·refine⟨by omega,by omega,?_,by omega,rfl,rfl⟩
  have:((8:Nat):Int)*(n:Int)≤140737488355328:=by omega
  exact this

/-! ### Limits -/
abbrev cabR (y:Cab):Ob:=.row 4 [[.str y.name,.int .i64 y.seats,.int .i64 y.over,.sl 2 (y.cls.map Cls.enc) y.clsx]]
set_option maxHeartbeats 4000000 in
set_option maxRecDepth 100000 in
theorem Limits_d {n:Nat} {y:Cab} {S:List Ob} (hn:110≤n) (hy:CabOk y):WO (dcall E (n+1) 146 [.agg y.enc] S) fun r T=>∃k,r=.os k 0 y.cls.length false∧T[k]? =some (.row 1 (rowH y.cls.length (limF y)))∧S.length≤k∧ExtS S T:=by
 obtain⟨s1,s2,o1,o2,l1,l2,hp,hm⟩:=hy
 have ca:=Auth_c (n:=n) (by omega) (y:=y) (by omega) (by omega) (by omega) (by omega)
 have hau:0≤autF y∧autF y≤1998:=by unfold autF;omega
 refine wo_dcall Tryz.func146 rfl (by decide) rfl 36 rfl (fun a hal ha=>?_)
 have h0:a[0]? =some (.agg y.enc):=ha 0 (by simp)
 clear ha
 simp only[Cab.enc]at h0 ca
 have mk:=mkI (S:=S++[cabR y]) (n:=y.cls.length) (by omega)
 rw[show (S++[cabR y]).length=S.length+1 by simp]at mk
 have e0:(y.cls.length:Int)=((y.cls.length:Nat):Int):=rfl
 simp(maxSteps:=1000000)(disch:=omega)only[push_cast,hal,h0,get_end,mk,↓WX,simprocAttr]
 refine wl_loop (fun i a T=>a.length=36∧a[1]? =some (.loc S.length 0 0)∧a[3]? =some (.os (S.length+1) 0 y.cls.length false)∧a[9]? =some (.os (S.length+1) 0 y.cls.length false)∧a[10]? =some (.int .i64 y.cls.length)∧a[11]? =some (.int .i64 i)∧T[S.length]? =some (cabR y)∧ExtS S T∧∃h,T[S.length+1]? =some (.row 1 (rowH y.cls.length h))∧∀j,j<i→h j=limF y j) y.cls.length ?_ (by omega) ?_
 ·simp(maxSteps:=1000000)(disch:=omega)only[push_cast,hal,Int.natCast_zero,simprocAttr]
  exact⟨get_end0,fun k x hk=>get_old (get_old hk),_,get_end1,fun j hj=>by omega⟩
 clear hal h0 a
 rintro i a T hi ⟨hal,h1,h3,h9,h10,h11,hT0,hx,h,hT1,hh⟩
 rcases Nat.lt_or_eq_of_le hi with hlt |rfl
 case inr=>
  rw[rowH_congr hh]at hT1
  simp(maxSteps:=1000000)(disch:=omega)only[push_cast,hal,h3,h10,h11,Nat.lt_irrefl,Tryz.f146,↓WX,simprocAttr]
  exact⟨_,rfl,hT1,by omega,hx⟩
 have hlT:S.length+1<T.length:=lt_of_get hT1
 have hne:¬S.length+1=S.length:=by omega
 have key:∀(f:Nat→Int),f i=limF y i→(∀j,j<i→f j=h j)→∀j,j<i+1→f j=limF y j:=fun f h1 h2 j hj=>by
  by_cases e:j=i
  ·rw[e,h1]
  ·rw[h2 j (by omega),hh j (by omega)]
 by_cases hi0:i=0
 ·have hi1:¬(0:Int)<i:=by omega
  have hl:limF y i=autF y:=by rw[hi0];rfl
  simp(maxSteps:=1000000)(disch:=omega)only[push_cast,gt_iff_lt,hal,h1,h3,h9,h10,h11,hlt,hT0,hT1,hlT,hne,ca,hi1,rowH_get,rowH_set,wrap_ok,Int.natCast_add,Int.natCast_one,↓WX,simprocAttr]
  exact⟨hx.set (by omega) _,_,rfl,key _ (by simp[hl]) fun j hj=>if_neg (by omega)⟩
 ·have hi1:(0:Int)<i:=by omega
  have hi2:((i:Int)-1).toNat=i-1:=by omega
  have hi3:(0:Int)≤(i:Int)-1:=by omega
  obtain⟨z,hz⟩:∃z,y.cls[i-1]? =some z:=⟨y.cls[i-1],by simp⟩
  have hzp:=hp (i-1) z hz
  have hl:limF y i=autF y-z.prot:=by
   obtain⟨q,rfl⟩:∃q,i=q+1:=⟨i-1,by omega⟩
   simp only[Nat.add_sub_cancel]at hz
   simp[limF,hz]
  simp(maxSteps:=1000000)(disch:=omega)only[push_cast,gt_iff_lt,hal,h1,h3,h9,h10,h11,hlt,hT0,hT1,hlT,hne,ca,hi1,hi2,hi3,hz,Cls.enc,rowH_get,rowH_set,wrap_ok,Int.natCast_add,Int.natCast_one,List.set_set,↓WX,simprocAttr]
  exact⟨hx.set (by omega) _,_,rfl,key _ (by simp[hl]) fun j hj=>by rw[if_neg (by omega),if_neg (by omega)]⟩
theorem Limits_c {n:Nat} {y:Cab} (hn:120≤n) (hy:CabOk y) (st:Bool) (S:List Ob):∃k T,callD E (dcall E n) st S 146 [.agg y.enc]=some (.os k 0 y.cls.length false,T)∧T[k]? =some (.row 1 (rowH y.cls.length (limF y)))∧S.length≤k∧ExtS S T:=by
 obtain⟨m,rfl⟩:∃m,n=m+1:=⟨n-1,by omega⟩
 obtain⟨d,T,ho,k,rfl,h1,h2,h3⟩:=Limits_d (n:=m) (S:=S) (by omega) hy
 exact⟨k,T,callD_extS rfl ho h3,h1,h2,h3⟩
set_option maxHeartbeats 4000000 in
theorem Clone_c {n k len:Nat} {h:Nat→Int} {S:List Ob} (hn:2≤n) (hl:1≤len) (hl2:len≤1000) (hk:S[k]? =some (.row 1 (rowH len h))) (st:Bool):callD E (dcall E n) st S 145 [.os k 0 len false]=some (.os S.length 0 len false,S++[.row 1 (rowH len h)]):=by
 obtain⟨m,rfl⟩:∃m,n=m+1:=⟨n-1,by omega⟩
 have:WO (dcall E (m+1) 145 [.os k 0 len false] S) fun r T=>r=.os S.length 0 len false∧T=S++[.row 1 (rowH len h)]:=by
  refine wo_dcall Tryz.func145 rfl (by decide) rfl 8 rfl (fun a hal ha=>?_)
  have h0:a[0]? =some (.os k 0 len false):=ha 0 (by simp)
  clear ha
  have e1:(rowH len h).take len=rowH len h:=List.take_of_length_le (by rw[rowH_len];omega)
  have e2:¬len=0:=by omega
  simp(maxSteps:=1000000)(disch:=omega)only[push_cast,hal,h0,dEq,dAppend,hk,rowH_len,e1,e2,if_pos,Nat.le_refl,Tryz.f145,↓WX,simprocAttr]
 obtain⟨d,T,ho,rfl,rfl⟩:=this
 exact callD_extS rfl ho ExtS.app

/-! ### What is left below the limits -/
theorem spF_bd {y:Cab} (hy:CabOk y) {l:List Int} (hr:rngI l) (hl:l.length≤100) (i:Nat): -1000000≤spF y l i∧spF y l i≤1998:=by
 have h1:=drop_bd hr i
 have h2:=limF_le hy i
 have h3:=limF_pos hy i
 have h4:=aut_le hy
 unfold spF;omega
set_option maxHeartbeats 4000000 in
set_option maxRecDepth 100000 in
theorem spare_d {n r:Nat} {y:Cab} {l:List Int} {S:List Ob} (hn:130≤n) (hy:CabOk y) (hr:rngI l) (hl:l.length=y.cls.length) (hk:S[r]? =some (.row 1 (l.map encZ))):
  WO (dcall E (n+1) 135 [.agg y.enc,.os r 0 l.length false] S) fun d T=>∃k,d=.os k 0 l.length false∧T[k]? =some (.row 1 (rowH l.length (spF y l)))∧S.length≤k∧ExtS S T:=by
 have l1:=hy.l1
 have l2:=hy.l2
 obtain⟨k0,T0,cl,hk0,hge,hx0⟩:=Limits_c (n:=n) (by omega) hy false (S++[cabR y])
 rw[←hl]at cl hk0
 have cc:=Clone_c (n:=n) (by omega) (by omega) (by omega) hk0 false
 refine wo_dcall Tryz.func135 rfl (by decide) rfl 32 rfl (fun a hal ha=>?_)
 have h0:a[0]? =some (.agg y.enc):=ha 0 (by simp)
 have h1:a[1]? =some (.os r 0 l.length false):=ha 1 (by simp)
 clear ha
 simp only[Cab.enc]at h0 cl
 have e3:(IntKind.i64.wrap ((l.length:Int)-1))=(l.length:Int)-1:=wrap_ok (by omega) (by omega)
 simp(maxSteps:=1000000)(disch:=omega)only[push_cast,hal,h0,get_end,cl,cc,e3,↓WX,simprocAttr]
 refine wl_loop (fun i a T=>a.length=32∧a[1]? =some (.os r 0 l.length false)∧a[5]? =some (.os T0.length 0 l.length false)∧a[6]? =some (.int .i64 (l.drop (l.length-i)).sum)∧a[7]? =some (.int .i64 ((l.length:Int)-1-i))∧ExtS S T∧∃h,T[T0.length]? =some (.row 1 (rowH l.length h))∧∀j,j<l.length→h j=if l.length-i≤j then spF y l j else limF y j) l.length ?_ (by omega) ?_
 ·simp(maxSteps:=1000000)(disch:=omega)only[push_cast,hal,h1,Int.natCast_zero,Int.sub_zero,Nat.sub_zero,List.drop_length,List.sum_nil,simprocAttr]
  exact⟨fun k x hx=>get_old (hx0 _ _ (get_old hx)),_,get_end,fun j hj=>by rw[if_neg (by omega)]⟩
 clear hal h0 h1 a
 rintro i a T hi ⟨hal,h1,h5,h6,h7,hx,h,hT,hh⟩
 rcases Nat.lt_or_eq_of_le hi with hlt |rfl
 case inr=>
  have q:¬(0:Int)≤(l.length:Int)-1-l.length:=by omega
  rw[rowH_congr (g:=spF y l) fun j hj=>by rw[hh j hj,if_pos (by omega)]]at hT
  simp(maxSteps:=1000000)(disch:=omega)only[push_cast,hal,h5,h7,q,Tryz.f135,↓WX,simprocAttr]
  exact⟨_,rfl,hT,by have:=hx0.len;rw[List.length_append]at this;omega,hx⟩
 have q1:(0:Int)≤(l.length:Int)-1-i:=by omega
 have q2:((l.length:Int)-1-i).toNat=l.length-1-i:=by omega
 have q3:(l.length:Int)-1-i<l.length:=by omega
 have q4:l.length-1-i<l.length:=by omega
 obtain⟨v,hv⟩:∃v,l[l.length-1-i]? =some v:=⟨l[l.length-1-i],by simp⟩
 have hvb:=hr v (List.mem_of_getElem? hv)
 have hsum:=drop_sum hv
 rw[show l.length-1-i+1=l.length-i by omega]at hsum
 have hbd:=drop_bd hr (l.length-i)
 have hrT:=hx r _ hk
 have hsp:=spF_bd hy hr (by omega) (l.length-1-i)
 have hlb:=limF_le hy (l.length-1-i)
 have hlp:=limF_pos hy (l.length-1-i)
 have hau:=aut_le hy
 have hval:h (l.length-1-i)=limF y (l.length-1-i):=by rw[hh _ q4,if_neg (by omega)]
 have hspe:spF y l (l.length-1-i)=limF y (l.length-1-i)-((l.drop (l.length-i)).sum+v):=by unfold spF;rw[hsum];omega
 have hne:T0.length≠r:=by
  have h1:=lt_of_get hk
  have h2:=hx0.len
  rw[List.length_append]at h2
  omega
 have hlT:=lt_of_get hT
 simp(maxSteps:=1000000)(disch:=omega)only[push_cast,hal,h1,h5,h6,h7,q1,q2,q3,hv,hT,hrT,hlT,hval,←hspe,rowH_get,rowH_set,wrap_ok,Int.natCast_add,Int.natCast_one,↓WX,simprocAttr]
 refine⟨hlt,?_,by omega,hx.set (by have:=hx0.len;rw[List.length_append]at this;omega) _,_,rfl,fun j hj=>?_⟩
 ·rw[show l.length-(i+1)=l.length-1-i by omega,hsum];omega
 ·by_cases e:j=l.length-1-i
  ·rw[if_pos e,if_pos (by omega),e]
  ·rw[if_neg e,hh j hj]
   by_cases e2:l.length-i≤j
   ·rw[if_pos e2,if_pos (by omega)]
   ·rw[if_neg e2,if_neg (by omega)]
theorem spare_c {n r:Nat} {y:Cab} {l:List Int} {S:List Ob} (hn:140≤n) (hy:CabOk y) (hr:rngI l) (hl:l.length=y.cls.length) (hk:S[r]? =some (.row 1 (l.map encZ))) (st:Bool):
  ∃k T,callD E (dcall E n) st S 135 [.agg y.enc,.os r 0 l.length false]=some (.os k 0 l.length false,T)∧T[k]? =some (.row 1 (rowH l.length (spF y l)))∧S.length≤k∧ExtS S T:=by
 obtain⟨m,rfl⟩:∃m,n=m+1:=⟨n-1,by omega⟩
 obtain⟨d,T,ho,k,rfl,h1,h2,h3⟩:=spare_d (n:=m) (by omega) hy hr hl hk
 exact⟨k,T,callD_extS rfl ho h3,h1,h2,h3⟩
theorem right_ok {y:Cab} {l:List Int} (hr:rngI l) (hl:l.length=y.cls.length):rightB y l=true:=by
 unfold rightB
 rw[decide_eq_true hl,Bool.true_and,Bool.not_eq_true',List.any_eq_false]
 intro v hv
 have:=hr v hv
 unfold outB
 simp;omega
def lsF (y:Cab) (l:List Int):Nat→Int
 |0=>1099511627776
 |i+1=>avF y l i
theorem avF_bd {y:Cab} (hy:CabOk y) {l:List Int} (hr:rngI l) (hl:l.length≤100):∀i:Nat,-1000000≤avF y l i∧avF y l i≤1998
 |0=>spF_bd hy hr hl 0
 |i+1=>by
  have h1:=avF_bd hy hr hl i
  have h2:=spF_bd hy hr hl (i+1)
  rw[avF];omega
set_option maxHeartbeats 4000000 in
set_option maxRecDepth 100000 in
theorem Open_d {n r:Nat} {y:Cab} {l:List Int} {S:List Ob} (hn:140≤n) (hy:CabOk y) (hr:rngI l) (hl:l.length=y.cls.length) (hk:S[r]? =some (.row 1 (l.map encZ))):
  WO (dcall E (n+1) 110 [.agg y.enc,.os r 0 l.length false] S) fun d T=>∃k,d=.os k 0 l.length false∧T[k]? =some (.row 1 (rowH l.length fun i=>max 0 (avF y l i)))∧S.length≤k∧ExtS S T:=by
 have l1:=hy.l1
 have l2:=hy.l2
 have hkx:(S++[cabR y])[r]? =some (.row 1 (l.map encZ)):=get_old hk
 have cr:=right_c (n:=n) (by omega) (by omega) (by omega) hkx false (y:=y)
 rw[right_ok hr hl]at cr
 obtain⟨k0,T0,cs,hk0,hge,hx0⟩:=spare_c (n:=n) (by omega) hy hr hl hkx false
 rw[List.length_append]at hge
 refine wo_dcall Tryz.func110 rfl (by decide) rfl 33 rfl (fun a hal ha=>?_)
 have h0:a[0]? =some (.agg y.enc):=ha 0 (by simp)
 have h1:a[1]? =some (.os r 0 l.length false):=ha 1 (by simp)
 clear ha
 simp only[Cab.enc]at h0 cr cs
 simp(maxSteps:=1000000)(disch:=omega)only[push_cast,hal,h0,h1,get_end,cr,cs,dUn,↓WX,simprocAttr]
 refine wl_loop (fun i a T=>a.length=33∧a[5]? =some (.os k0 0 l.length false)∧a[6]? =some (.int .i64 (lsF y l i))∧a[16]? =some (.os k0 0 l.length false)∧a[17]? =some (.int .i64 l.length)∧a[18]? =some (.int .i64 i)∧ExtS S T∧∃h,T[k0]? =some (.row 1 (rowH l.length h))∧∀j,j<l.length→h j=if j<i then max 0 (avF y l j) else spF y l j) l.length ?_ (by omega) ?_
 ·simp(maxSteps:=1000000)(disch:=omega)only[push_cast,hal,Int.natCast_zero,lsF,simprocAttr]
  exact⟨fun k x hx=>hx0 _ _ (get_old hx),_,hk0,fun j hj=>by rw[if_neg (by omega)]⟩
 clear hal h0 h1 a
 rintro i a T hi ⟨hal,h5,h6,h16,h17,h18,hx,h,hT,hh⟩
 rcases Nat.lt_or_eq_of_le hi with hlt |rfl
 case inr=>
  rw[rowH_congr (g:=fun i=>max 0 (avF y l i)) fun j hj=>by rw[hh j hj,if_pos hj]]at hT
  simp(maxSteps:=1000000)(disch:=omega)only[push_cast,hal,h5,h17,h18,Nat.lt_irrefl,Tryz.f110,↓WX,simprocAttr]
  exact⟨_,rfl,hT,by omega,hx⟩
 have hval:h i=spF y l i:=by rw[hh i hlt,if_neg (by omega)]
 have hsp:=spF_bd hy hr (by omega) i
 have hav:=avF_bd hy hr (by omega) i
 have hlT:=lt_of_get hT
 obtain⟨M,hM,hmin⟩:∃M:Int,lsF y l i=M∧(if spF y l i<M then spF y l i else M)=avF y l i:=by
  cases i with
  |zero=>exact⟨_,rfl,by rw[if_pos (by show spF y l 0<1099511627776;omega)];rfl⟩
  |succ i=>exact⟨_,rfl,by rw[avF];show (if spF y l (i+1)<avF y l i then spF y l (i+1) else avF y l i)=_;split <;> omega⟩
 have hmax:(if 0<avF y l i then avF y l i else 0)=max 0 (avF y l i):=by split <;> omega
 rw[hM]at h6
 simp(maxSteps:=1000000)(disch:=omega)only[push_cast,hal,h5,h6,h16,h17,h18,hlt,hT,hlT,hval,hmin,hmax,lsF,rowH_get,rowH_set,wrap_ok,Int.natCast_add,Int.natCast_one,↓WX,simprocAttr]
 refine⟨hx.set (by omega) _,_,rfl,fun j hj=>?_⟩
 by_cases e:j=i
 ·rw[if_pos e,if_pos (by omega),e]
 ·rw[if_neg e,hh j hj]
  by_cases e2:j<i
  ·rw[if_pos e2,if_pos (by omega)]
  ·rw[if_neg e2,if_neg (by omega)]
theorem Open_c {n r:Nat} {y:Cab} {l:List Int} {S:List Ob} (hn:150≤n) (hy:CabOk y) (hr:rngI l) (hl:l.length=y.cls.length) (hk:S[r]? =some (.row 1 (l.map encZ))):
  ∃k T,(∀st,callD E (dcall E n) st S 110 [.agg y.enc,.os r 0 l.length false]=some (.os k 0 l.length false,T))∧T[k]? =some (.row 1 (rowH l.length fun i=>max 0 (avF y l i)))∧S.length≤k∧ExtS S T:=by
 obtain⟨m,rfl⟩:∃m,n=m+1:=⟨n-1,by omega⟩
 obtain⟨d,T,ho,k,rfl,h1,h2,h3⟩:=Open_d (n:=m) (by omega) hy hr hl hk
 exact⟨k,T,fun st=>callD_extS rfl ho h3,h1,h2,h3⟩
end Go.Proofs.YtkemehicndccmaaGreatDoor.Dm
