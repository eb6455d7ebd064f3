/-
  The reference's violations of taxes.
  The machine at connecting times: the examples of the chapter.
  The reference's inventory: Resize.
  The reference's calls of an inventory: Say.
  The reference's availability of a journey; calls of both inventories.
  What plain data of configurations, identifiers of legs and calls are.
  Parameters of the laws of the inventory: configurations and calls, as data.
  The bound of the second form, as the bulk of data.
-/
import Derived.Test.YtkemehicndccmaaGreatDoorZg
import Derived.Test.YtkemehicndccmaaGreatDoorWq
import Derived.Test.YtkemehicndccmaaGreatDoorPlT
import Derived.Test.YtkemehicndccmaaGreatDoorCoA
import Derived.Test.YtkemehicndccmaaGreatDoorCdD
import Derived.Test.YtkemehicndccmaaGreatDoorSkT
import Derived.Test.YtkemehicndccmaaGreatDoorEval
import Derived.Test.YtkemehicndccmaaGreatDoorDmT
import Derived.Test.YtkemehicndccmaaGreatDoorDmH
import Derived.Test.YtkemehicndccmaaGreatDoorRows
set_option linter.unusedSimpArgs false
set_option linter.unusedVariables false
namespace Go.Proofs.YtkemehicndccmaaGreatDoor.Dm
open Go Gw
set_option linter.unusedSimpArgs false
set_option linter.unusedSimpArgs false
structure Tx where
 code:ByteArray
 kind:Int
 land:ByteArray
 amount:Int
 scope:Int
 transit:Int
 free:List ByteArray
 freex:Bool
def Tx.enc (x:Tx):List D:=[.str x.code,.int .i64 x.kind,.str x.land,.int .i64 x.amount,.int .i64 x.scope,.int .i64 x.transit,.sl 1 (x.free.map Cnd.encT) x.freex]
theorem Tx_pure (r:Tx):pureL r.enc=true:=by
 simp only[D.pure,pureL_cons,pureL_nil,Bool.and_self,Tx.enc,Cnd.encT_pure]
theorem Txs_pure (l:List Tx):pureLL (l.map Tx.enc)=true:=by
 induction l with
 |nil=>rfl
 |cons f fs ih=>rw[List.map_cons,pureLL_cons,ih,Tx_pure];rfl
def taxT:ByteArray:=ByteArray.mk #[116,97,120,32]
section
variable {n : Nat}
theorem rCodeK_c {s:ByteArray} (k:Int) (hn:s.size+6<n) (hz:s.size≤9223372036854775807):∃b,∀st S,callD E (dcall E n) st S 40 [.str s,.int .i64 k,.int .i64 k]=some (.bool b,S):=by
 obtain⟨m,rfl⟩:∃m,n=m+1:=⟨n-1,by omega⟩
 exact⟨_,fun st S=>callD_pure rfl rfl (eq_of_wo (ref_Code_d (by omega) hz)) rfl⟩
theorem most27_c (hn:1≤n) (k:Int):∃v:Int,∀st S,callD E (dcall E n) st S 47 [.int .i64 k]=some (.int .i64 v,S):=by
 obtain⟨m,rfl⟩:∃m,n=m+1:=⟨n-1,by omega⟩
 have:WO (dcall E (m+1) 47 [.int .i64 k] []) fun r T=>∃v:Int,r=.int .i64 v:=by
  refine wo_dcall Tryz.func47 rfl (by decide) rfl 5 rfl (fun a hal ha=>?_)
  have h0:a[0]? =some (.int .i64 k):=ha 0 (by simp)
  clear ha
  by_cases q:k=4 <;> (simp(maxSteps:=1000000)(disch:=omega)only[push_cast,hal,h0,q,Tryz.f47,↓WX,simprocAttr];exact⟨_,rfl⟩)
 obtain⟨_,T,ho,v,rfl⟩:=this
 exact⟨v,fun st S=>callD_pure rfl rfl ho rfl⟩
set_option maxHeartbeats 4000000 in
set_option maxRecDepth 100000 in
theorem named27_c (x:Tx) (z1:x.code.size≤1048576) (z2:x.land.size≤1048576) (z3:∀s∈x.free,s.size≤1048576) (z4:x.free.length≤1048576) (hn:1048700≤n):∃b,∀st S,callD E (dcall E n) st S 46 [.agg x.enc]=some (.bool b,S):=by
 obtain⟨m,rfl⟩:∃m,n=m+1:=⟨n-1,by omega⟩
 obtain⟨b1,c1⟩:=rCodeK_c (n:=m) (s:=x.code) 2 (by omega) (by omega)
 have c2:=fun st S=>rCountry_c (n:=m) (s:=x.land) (by omega) (by omega) st S
 generalize lettS x.land 2=b2 at*
 have hp:=Tx_pure x
 simp only[Tx.enc]at hp ⊢
 have:WO (dcall E (m+1) 46 [.agg [.str x.code,.int .i64 x.kind,.str x.land,.int .i64 x.amount,.int .i64 x.scope,.int .i64 x.transit,.sl 1 (x.free.map Cnd.encT) x.freex]] []) fun r T=>∃b,r=.bool b:=by
  refine wo_dcall Tryz.func46 rfl (by decide) rfl 28 rfl (fun a hal ha=>?_)
  have h0:a[0]? =some (.agg [.str x.code,.int .i64 x.kind,.str x.land,.int .i64 x.amount,.int .i64 x.scope,.int .i64 x.transit,.sl 1 (x.free.map Cnd.encT) x.freex]):=ha 0 (by simp)
  clear ha
  cases b1
  case false=>
   simp(maxSteps:=1000000)(disch:=omega)only[push_cast,hal,h0,c1,dUn,Bool.not_false,Tryz.f46,↓WX,simprocAttr]
   exact⟨_,rfl⟩
  cases b2
  case false=>
   simp(maxSteps:=1000000)(disch:=omega)only[push_cast,hal,h0,c1,c2,dUn,Bool.not_false,Bool.not_true,Tryz.f46,↓WX,simprocAttr]
   exact⟨_,rfl⟩
  simp(maxSteps:=1000000)(disch:=omega)only[push_cast,hal,h0,c1,c2,dUn,Bool.not_true,↓WX,simprocAttr]
  refine wl_loop (fun i a T=>T=[Ob.row 7 [[.str x.code,.int .i64 x.kind,.str x.land,.int .i64 x.amount,.int .i64 x.scope,.int .i64 x.transit,.sl 1 (x.free.map Cnd.encT) x.freex]]]∧a.length=28∧a[1]? =some (.loc 0 0 0)∧a[3]? =some (.int .i64 i)) x.free.length ?_ (by omega) ?_
  ·simp(maxSteps:=1000000)(disch:=omega)only[push_cast,hal,Int.natCast_zero,simprocAttr]
  clear hal h0 a
  rintro i a T hi ⟨rfl,hal,h1,h3⟩
  rcases Nat.lt_or_eq_of_le hi with hlt |rfl
  case inr=>
   simp(maxSteps:=1000000)(disch:=omega)only[push_cast,hal,h1,h3,Int.lt_irrefl,Tryz.f46,↓WX,simprocAttr]
   exact⟨_,rfl⟩
  obtain⟨y,hy⟩:∃y,x.free[i]? =some y:=⟨x.free[i],by simp⟩
  have hltc:(i:Int)<x.free.length:=by omega
  have hys:=z3 y (List.mem_of_getElem? hy)
  obtain⟨b3,c3⟩:=rCodeK_c (n:=m) (s:=y) 3 (by omega) (by omega)
  cases b3
  ·simp(maxSteps:=1000000)(disch:=omega)only[push_cast,hal,h1,h3,hltc,hy,c3,dUn,Bool.not_false,Tryz.f46,↓WX,simprocAttr]
   exact⟨_,rfl⟩
  ·simp(maxSteps:=1000000)(disch:=omega)only[push_cast,hal,h1,h3,hltc,hlt,hy,c3,dUn,Bool.not_true,wrap_ok,Int.natCast_add,Int.natCast_one,↓WX,simprocAttr]
 obtain⟨_,T,ho,b,rfl⟩:=this
 exact⟨b,fun st S=>callD_pure rfl (by rw[pureL_cons,D.pure,hp];rfl) ho rfl⟩
end
end Go.Proofs.YtkemehicndccmaaGreatDoor.Dm
namespace Go.Proofs.YtkemehicndccmaaGreatDoor.Dm
open Go

end Go.Proofs.YtkemehicndccmaaGreatDoor.Dm
namespace Go.Proofs.YtkemehicndccmaaGreatDoor.Dm
open Go Gw
set_option linter.unusedSimpArgs false
set_option linter.unusedSimpArgs false

/-! Plans with places laid ahead. -/
/-! What the reference's table without sales adds to a store: the store's length alone matters. -/
def ewid (c:Cfg) (j:Nat):Nat:=((c.cabs[j]?).map fun y:Cab=>y.cls.length).getD 0
def ecells (b:Nat) (c:Cfg):Nat→List (List D)
 |0=>[]
 |j+1=>ecells b c j++[[.os (b+1+2*j) 0 (ewid c j) false]]
def ekill (j:Nat) (l:List Ob):List Ob:=if j=0 then l else l.set (2*j) .dead
def ejF (b:Nat) (c:Cfg):Nat→List Ob
 |0=>[.row 2 [c.enc]]
 |j+1=>ekill j (ejF b c j)++[.row 1 ((List.replicate (ewid c j) (0:Int)).map encZ)]++[.row 1 (ecells b c (j+1))]
def plan78:Plan:=steps [0,1,3] (.both (steps [2] (.both (steps [4] (.step 5 (steps [6,7] .done))) (.step 5 (steps [4,6,7] .done)))) (.step 5 (steps [2,4,6,7] .done)))
section
variable {S : List Ob} {lab : Lab} {o k n : Nat} {s : Stk} {rd : D} {rows : List RRow} {id : Lid}
end
end Go.Proofs.YtkemehicndccmaaGreatDoor.Dm
namespace Go.Proofs.YtkemehicndccmaaGreatDoor.Dm
open Go Gw
set_option linter.unusedSimpArgs false
set_option linter.unusedSimpArgs false

section
variable {S : List Ob} {lab : Lab} {o k n : Nat} {s : Stk} {rd : D} {rows : List RRow} {id : Lid} {ids : List Lid}
theorem gen_of {f:FuncId} {args:List D} {Q:D→List Ob→Prop} (hn:1≤n) (hm:E.mode f=.gen) (h:WO (dcall E (n-1+1) f args S) Q):∃d T,(∀st,callD E (dcall E n) st S f args=some (d,T))∧Q d T:=by
 obtain⟨d,T,ho,hq⟩:=h
 rw[show n-1+1=n by omega]at ho
 exact⟨d,T,fun st=>(callD_gen hm).trans ho,hq⟩
theorem RAt.other {S T:List Ob} {lab lab':Lab} {o o' k:Nat} {s:Stk} (h:RAt S lab o k s) (g:Step o' S lab T lab') (ho:o≠o'):RAt T lab' o k s:=by
 obtain⟨-,rd,rows,h⟩:=h
 exact⟨g.fresh,rd,rows,h.keep (g.keepO ho)⟩
end
end Go.Proofs.YtkemehicndccmaaGreatDoor.Dm
namespace Go.Proofs.YtkemehicndccmaaGreatDoor.Dm
open Go Gw
set_option linter.unusedSimpArgs false
set_option linter.unusedSimpArgs false

section
variable {S : List Ob} {lab : Lab} {o k n : Nat} {s : Stk} {rd : D} {rows : List RRow} {id : Lid} {ids : List Lid}
set_option maxHeartbeats 8000000 in
set_option maxRecDepth 100000 in
theorem rusable_c (hn:190≤n) (h:RefAt S lab o s k rd rows) (hrl:rows.length≤100) (hl:ids.length≤20) {di:D} (hdi:FLs 4 Lid.enc di ids) (st:Bool):
  callD E (dcall E n) st S 69 [.loc k 0 0,di]=some (.bool (usF s ids),S):=by
 obtain⟨q,rfl⟩:∃q,n=q+1:=⟨n-1,by omega⟩
 have:WO (dcall E (q+1) 69 [.loc k 0 0,di] S) fun r T=>r=.bool (usF s ids)∧T=S:=by
  refine wo_dcall Tryz.func69 rfl (by decide) rfl 43 rfl (fun a hal ha=>?_)
  have h0:a[0]? =some (.loc k 0 0):=ha 0 (by simp)
  have h1:a[1]? =some (di):=ha 1 (by simp)
  clear ha
  rcases hdi with ⟨rfl,rfl⟩ | ⟨x,rfl⟩
  ·simp(maxSteps:=1000000)(disch:=omega)only[push_cast,↓WX,simprocAttr]
   refine wl_loop (fun i a T=>i=0∧T=S∧a.length=43∧a[1]? =some (.nils)∧a[5]? =some (.int .i64 0)) 0 ?_ (by omega) ?_
   ·simp(maxSteps:=1000000)(disch:=omega)only[push_cast,hal,h1,simprocAttr]
   clear hal h0 h1 a
   rintro i a T _ ⟨rfl,rfl,hal,h1,h5⟩
   simp(maxSteps:=1000000)(disch:=omega)only[push_cast,gt_iff_lt,ne_eq,not_true_eq_false,hal,h1,h5,Int.lt_irrefl,usF,Tryz.f69,↓WX,simprocAttr]
  simp(maxSteps:=1000000)(disch:=omega)only[push_cast,↓WX,simprocAttr]
  refine wl_loop (fun i a T=>T=S∧a.length=43∧a[0]? =some (.loc k 0 0)∧a[1]? =some (.sl 4 (ids.map Lid.enc) x)∧a[5]? =some (.int .i64 i)∧(ids.take i).Nodup∧∀j id,j<i→ids[j]? =some id→(s.get id).isSome=true) ids.length ?_ (by omega) ?_
  ·simp(maxSteps:=1000000)(disch:=omega)only[push_cast,hal,h0,h1,Int.natCast_zero,List.take_zero,List.nodup_nil,simprocAttr]
   exact fun j id hj=>by omega
  clear hal h0 h1 a
  rintro i a T hi ⟨rfl,hal,h0,h1,h5,hnd,hsome⟩
  rcases Nat.lt_or_eq_of_le hi with hlt |rfl
  case inr=>
   rw[List.take_length]at hnd
   have hall:(ids.all fun id=>(s.get id).isSome)=true:=List.all_eq_true.2 fun id hid=>by
    obtain⟨j,hj⟩:=List.mem_iff_getElem?.1 hid
    exact hsome j id (lt_of_get hj) hj
   have hus:usF s ids=decide ((0:Int)<ids.length):=by
    unfold usF
    rw[hall,decide_eq_true hnd,Bool.and_true,Bool.and_true]
    cases ids <;> simp
   rw[hus]
   simp(maxSteps:=1000000)(disch:=omega)only[push_cast,gt_iff_lt,hal,h1,h5,Int.lt_irrefl,Tryz.f69,↓WX,simprocAttr]
  have hltc:(i:Int)<ids.length:=by omega
  obtain⟨id,hid⟩:∃id,ids[i]? =some id:=⟨ids[i],by simp⟩
  have ce:=rEquip_c (n:=q) (id:=id) (by omega) h hrl
  rcases hg:s.get id with _ |y
  ·have hus:usF s ids=false:=by
    unfold usF
    rw[all_false (p:=fun id=>(s.get id).isSome) hid (by rw[hg];rfl),Bool.and_false]
   rw[hus]
   have heq:s.equip id=none:=by unfold Stk.equip;rw[hg];rfl
   rw[heq]at ce
   simp only[Lid.enc,equipD]at ce
   simp(maxSteps:=1000000)(disch:=omega)only[push_cast,hal,h0,h1,h5,hltc,hid,ce,dUn,Lid.enc,Tryz.f69,↓WX,simprocAttr]
  have heq:s.equip id=some y.cfg.equip:=by unfold Stk.equip;rw[hg];rfl
  rw[heq]at ce
  simp only[Lid.enc,equipD]at ce
  simp(maxSteps:=1000000)(disch:=omega)only[push_cast,hal,h0,h1,h5,hltc,hid,ce,dUn,Lid.enc,↓WX,simprocAttr]
  refine wl_loop (fun j a U=>U=T∧a.length=43∧a[0]? =some (.loc k 0 0)∧a[1]? =some (.sl 4 (ids.map Lid.enc) x)∧a[5]? =some (.int .i64 i)∧a[8]? =some (.int .i64 j)∧∀k,k<j→ids[k]? ≠some id) i ?_ (by omega) ?_
  ·simp(maxSteps:=1000000)(disch:=omega)only[push_cast,ne_eq,hal,h0,h1,h5,Int.natCast_zero,simprocAttr]
   exact fun k hk=>by omega
  clear hal h0 h1 h5 a
  rintro j a U hj ⟨rfl,hal,h0,h1,h5,h8,hne⟩
  rcases Nat.lt_or_eq_of_le hj with hlj |rfl
  case inr=>
   simp(maxSteps:=1000000)(disch:=omega)only[push_cast,ne_eq,hal,h0,h1,h5,h8,Int.lt_irrefl,hlt,wrap_ok,Int.natCast_add,Int.natCast_one,↓WX,simprocAttr]
   refine⟨take_nodup hnd hid hne,fun j' id' hj' h1=>?_⟩
   by_cases ej:j'=j
   ·subst ej
    rw[hid]at h1
    cases h1
    rw[hg];rfl
   ·exact hsome j' id' (by omega) h1
  have hljc:(j:Int)<i:=by omega
  obtain⟨id',hq'⟩:∃id',ids[j]? =some id':=⟨ids[j]'(by omega),by simp⟩
  have he:=eq_lid id' id
  have hpl:=plain_lid
  by_cases e:id'=id
  ·subst e
   have hus:usF s ids=false:=by
    unfold usF
    rw[decide_eq_false (dup_of hlj hq' hid),Bool.and_false,Bool.false_and]
   rw[hus]
   rw[decide_eq_true rfl]at he
   simp only[Lid.enc]at he
   simp(maxSteps:=1000000)(disch:=omega)only[push_cast,ne_eq,hal,h1,h5,h8,hljc,hid,hq',he,hpl,Lid.enc,Tryz.f69,↓WX,simprocAttr]
  ·rw[decide_eq_false e]at he
   simp only[Lid.enc]at he
   simp(maxSteps:=1000000)(disch:=omega)only[push_cast,ne_eq,hal,h0,h1,h5,h8,hlj,hljc,hid,hq',he,hpl,Lid.enc,wrap_ok,Int.natCast_add,Int.natCast_one,↓WX,simprocAttr]
   intro k' hk'
   by_cases ek:k'=j
   ·subst ek
    rw[hq']
    intro e'
    exact e (Option.some.inj e')
   ·exact hne k' (by omega)
 obtain⟨_,U,ho,rfl,rfl⟩:=this
 exact callD_obs rfl (by simp[pureL_cons,D.pure]) ho rfl
set_option maxHeartbeats 8000000 in
set_option maxRecDepth 100000 in
theorem rOOpen_c (hn:210≤n) (h:RefAt S lab o s k rd rows) (ok:StkOk 9999 s) (hrl:rows.length≤100) (hls:s.l.length≤100) (hl:ids.length≤20) {di:D} (hdi:FLs 4 Lid.enc di ids) (cl:ByteArray) (st:Bool):
  callD E (dcall E n) st S 72 [.loc k 0 0,di,.str cl]=some (.int .i64 (openF s ids cl),S):=by
 obtain⟨q,rfl⟩:∃q,n=q+1:=⟨n-1,by omega⟩
 have cu:=rusable_c (n:=q) (by omega) h hrl hl hdi
 have clf:=fun id=>rLeft_c (n:=q) (id:=id) (by omega) h ok hrl hls cl
 have:WO (dcall E (q+1) 72 [.loc k 0 0,di,.str cl] S) fun r T=>r=.int .i64 (openF s ids cl)∧T=S:=by
  refine wo_dcall Tryz.func72 rfl (by decide) rfl 35 rfl (fun a hal ha=>?_)
  have h0:a[0]? =some (.loc k 0 0):=ha 0 (by simp)
  have h1:a[1]? =some (di):=ha 1 (by simp)
  have h2:a[2]? =some (.str cl):=ha 2 (by simp)
  clear ha
  unfold openF
  cases hu:usF s ids
  ·rw[hu]at cu
   rw[if_neg (by simp)]
   simp(maxSteps:=1000000)(disch:=omega)only[push_cast,hal,h0,h1,cu,dUn,Tryz.f72,↓WX,simprocAttr]
  rw[hu]at cu
  rw[if_pos rfl]
  have hne:ids≠[]:=by
   rintro rfl
   simp[usF]at hu
  rcases ids with _ | ⟨id0,rest⟩
  ·exact absurd rfl hne
  obtain⟨x,rfl⟩:∃x,di=.sl 4 ((id0::rest).map Lid.enc) x:=by
   rcases hdi with ⟨-,e⟩ |h
   ·cases e
   ·exact h
  have c0:=clf id0
  have hrl:rest.length≤19:=by simpa using hl
  dsimp only
  simp only[Lid.enc,List.map_cons]at c0 h1 cu
  change a[1]? =some (.sl 4 ([.str id0.c,.int .i64 id0.n,.int .i64 id0.d,.str id0.f]::rest.map Lid.enc) x) at h1
  simp(maxSteps:=1000000)(disch:=omega)only[push_cast,hal,h0,h1,h2,cu,c0,dUn,↓WX,simprocAttr]
  have hmin:∀(m:Int) (j:Nat) (id:Lid),rest[j]? =some id→minF s cl m (rest.drop j)=minF s cl (min m (s.left id cl)) (rest.drop (j+1)):=fun m j id hj=>by rw[drop_at hj,minF]
  refine wl_loop (fun i a T=>a.length=35∧a[0]? =some (.loc k 0 0)∧a[1]? =some (.sl 4 ([.str id0.c,.int .i64 id0.n,.int .i64 id0.d,.str id0.f]::rest.map Lid.enc) x)∧a[2]? =some (.str cl)∧a[8]? =some (.int .i64 (i+1))∧T=S∧∃w,a[7]? =some (.int .i64 w)∧minF s cl (s.left id0 cl) rest=minF s cl w (rest.drop i)) rest.length ?_ (by omega) ?_
  ·simp(maxSteps:=1000000)(disch:=omega)only[push_cast,hal,h0,h1,h2,Int.natCast_zero,List.drop_zero,Int.zero_add,simprocAttr]
   exact⟨_,rfl,rfl⟩
  clear hal h0 h1 h2 a
  rintro i a T hi ⟨hal,h0,h1,h2,h8,rfl,w,h7,hw⟩
  have hlen:((([D.str id0.c,.int .i64 id0.n,.int .i64 id0.d,.str id0.f]::rest.map Lid.enc).length:Nat):Int)=rest.length+1:=by simp
  rcases Nat.lt_or_eq_of_le hi with hlt |rfl
  case inr=>
   rw[hw,List.drop_length]
   simp(maxSteps:=1000000)(disch:=omega)only[push_cast,hal,h1,h7,h8,Int.lt_irrefl,minF,Int.natCast_add,Int.natCast_one,Tryz.f72,↓WX,simprocAttr]
  obtain⟨id,hid⟩:∃id,rest[i]? =some id:=⟨rest[i],by simp⟩
  have hltc:(i:Int)+1<rest.length+1:=by omega
  have hnn:(0:Int)≤(i:Int)+1:=by omega
  have htn:((i:Int)+1).toNat=i+1:=by omega
  have cl':=clf id
  rw[hmin w i id hid]at hw
  simp only[Lid.enc]at cl'
  by_cases hlw:w≤s.left id cl
  ·have hlw2:¬s.left id cl<w:=by omega
   rw[Int.min_eq_left hlw]at hw
   simp(maxSteps:=1000000)(disch:=omega)only[push_cast,hal,h0,h1,h2,h7,h8,hlt,hltc,hnn,htn,hid,cl',hlw2,Lid.enc,wrap_ok,Int.natCast_add,Int.natCast_one,↓WX,simprocAttr]
   exact⟨_,rfl,hw⟩
  ·have hlw2:s.left id cl<w:=by omega
   rw[Int.min_eq_right (by omega)]at hw
   simp(maxSteps:=1000000)(disch:=omega)only[push_cast,hal,h0,h1,h2,h7,h8,hlt,hltc,hnn,htn,hid,cl',hlw2,Lid.enc,wrap_ok,Int.natCast_add,Int.natCast_one,↓WX,simprocAttr]
   exact⟨_,rfl,hw⟩
 obtain⟨_,U,ho,rfl,rfl⟩:=this
 exact callD_obs rfl (by simp[pureL_cons,D.pure]) ho rfl

/-! ### Calls -/
end
end Go.Proofs.YtkemehicndccmaaGreatDoor.Dm
namespace Go.Proofs.YtkemehicndccmaaGreatDoor
open Go Dm Go.RowKit
set_option linter.unusedSimpArgs false

end Go.Proofs.YtkemehicndccmaaGreatDoor
namespace Go.Proofs.YtkemehicndccmaaGreatDoor
open Go Go.ChangeShapes Go.WideShapes Go.ChangeAt Go.RowKit Dm
end Go.Proofs.YtkemehicndccmaaGreatDoor
namespace Go.Proofs.YtkemehicndccmaaGreatDoor.Dm
open Go

mutual
theorem bulkW_le {H:Type}:∀d:DataW H,bulkW d≤Rows.uptoBulk d
 | .lit l=>by cases l <;> simp[bulkW,Rows.uptoBulk]
 | .nil=>by simp[bulkW,Rows.uptoBulk]
 | .ptr d=>by simp[bulkW,Rows.uptoBulk]
 | .slice es sp=>by
  have:=bulkWs_le es
  simp only[bulkW,Rows.uptoBulk];omega
 | .agg ps=>by
  have:=bulkWs_le ps
  simp only[bulkW,Rows.uptoBulk];omega
 | .iface t d=>by simp[bulkW,Rows.uptoBulk]
 | .map es=>by simp[bulkW,Rows.uptoBulk]
 | .held h=>by simp[bulkW,Rows.uptoBulk]
theorem bulkWs_le {H:Type}:∀l:List (DataW H),bulkWs l≤Rows.uptoBulkAll l
 | []=>Nat.le_refl _
 |d::l=>by
  have h1:=bulkW_le d
  have h2:=bulkWs_le l
  simp only[bulkWs,Rows.uptoBulkAll];omega
end
theorem bulk_small {H:Type} {ds:List (DataW H)} (h:Rows.uptoSmall H (ds++[])=true):bulkWs ds≤1048576:=by
 rw[List.append_nil]at h
 exact Nat.le_trans (bulkWs_le ds) (of_decide_eq_true h)
end Go.Proofs.YtkemehicndccmaaGreatDoor.Dm
