/-
  Conditions of rules, as a tree; how many levels and parts they have.
  The machine at the program's inventory: what is sold, class by class.
-/
import Derived.Test.YtkemehicndccmaaGreatDoorWbC
import Derived.Test.YtkemehicndccmaaGreatDoorDmH
import Derived.Test.YtkemehicndccmaaGreatDoorSkR
set_option linter.unusedSimpArgs false
set_option linter.unusedVariables false
namespace Go.Proofs.YtkemehicndccmaaGreatDoor.Dm
open Go Gw
set_option linter.unusedSimpArgs false
set_option linter.unusedSimpArgs false

inductive Cnd where
 |mk (kind:Int) (l:List Cnd) (lx:Bool) (a b pf pt pd:Int) (text:List ByteArray) (tx:Bool)
namespace Cnd
abbrev encT (s:ByteArray):List D:=[.str s]
mutual
def enc:Cnd→List D
 | .mk k l lx a b pf pt pd t tx=>[.int .i64 k,.sl 8 (encs l) lx,.int .i64 a,.int .i64 b,.int .i64 pf,.int .i64 pt,.int .i64 pd,.sl 1 (t.map encT) tx]
def encs:List Cnd→List (List D)
 | []=>[]
 |c::cs=>c.enc::encs cs
end
mutual
def lev:Cnd→Nat
 | .mk _ l _ _ _ _ _ _ _ _=>levs l+1
def levs:List Cnd→Nat
 | []=>0
 |c::cs=>max c.lev (levs cs)
end
mutual
def siz:Cnd→Nat
 | .mk _ l _ _ _ _ _ _ _ _=>sizs l+1
def sizs:List Cnd→Nat
 | []=>0
 |c::cs=>c.siz+sizs cs
end
theorem encs_map:∀l:List Cnd,encs l=l.map enc
 | []=>rfl
 |c::cs=>by rw[encs,encs_map cs];rfl
theorem encT_pure (l:List ByteArray):pureLL (l.map encT)=true:=by
 induction l with
 |nil=>rfl
 |cons f fs ih=>rw[List.map_cons,pureLL_cons,ih];rfl
mutual
theorem pure:∀c:Cnd,pureL c.enc=true
 | .mk k l lx a b pf pt pd t tx=>by
  have h1:=pures l
  have h2:=encT_pure t
  simp[enc,pureL_cons,pureL_nil,D.pure,h1,h2]
theorem pures:∀l:List Cnd,pureLL (encs l)=true
 | []=>rfl
 |c::cs=>by
  have h1:=pure c
  have h2:=pures cs
  rw[encs,pureLL_cons,h1,h2];rfl
end
mutual
theorem lev_le:∀c:Cnd,c.lev≤bulkL c.enc
 | .mk k l lx a b pf pt pd t tx=>by
  have:=levs_le l
  simp only[enc,lev,bulkL,bulkD];omega
theorem levs_le:∀l:List Cnd,levs l≤bulkLL (encs l)
 | []=>Nat.zero_le _
 |c::cs=>by
  have h1:=lev_le c
  have h2:=levs_le cs
  simp only[encs,levs,bulkLL];omega
end
mutual
theorem siz_le:∀c:Cnd,c.siz≤bulkL c.enc
 | .mk k l lx a b pf pt pd t tx=>by
  have:=sizs_le l
  simp only[enc,siz,bulkL,bulkD];omega
theorem sizs_le:∀l:List Cnd,sizs l≤bulkLL (encs l)
 | []=>Nat.zero_le _
 |c::cs=>by
  have h1:=siz_le c
  have h2:=sizs_le cs
  simp only[encs,sizs,bulkLL];omega
end
theorem levs_add (x:Cnd):∀l:List Cnd,levs (l++[x])=max (levs l) x.lev
 | []=>by simp[levs]
 |c::cs=>by rw[List.cons_append,levs,levs,levs_add x cs,Nat.max_assoc]
theorem sizs_add (x:Cnd):∀l:List Cnd,sizs (l++[x])=sizs l+x.siz
 | []=>by simp[sizs]
 |c::cs=>by rw[List.cons_append,sizs,sizs,sizs_add x cs,Nat.add_assoc]
theorem levs_take {l:List Cnd} {i:Nat} {x:Cnd} (h:l[i]? =some x):levs (l.take (i+1))=max (levs (l.take i)) x.lev:=by
 rw[List.take_add_one,h];exact levs_add x _
theorem sizs_take {l:List Cnd} {i:Nat} {x:Cnd} (h:l[i]? =some x):sizs (l.take (i+1))=sizs (l.take i)+x.siz:=by
 rw[List.take_add_one,h];exact sizs_add x _
theorem bulk_take:∀(l:List Cnd) (i:Nat),bulkLL (encs (l.take i))≤bulkLL (encs l)
 | [],i=>by simp
 |c::cs,0=>Nat.zero_le _
 |c::cs,i+1=>by
  have:=bulk_take cs i
  simp only[List.take_succ_cons,encs,bulkLL];omega
theorem bulk_get:∀ {l:List Cnd} {i:Nat} {x:Cnd},l[i]? =some x→bulkL x.enc≤bulkLL (encs l)
 | [],i,x,h=>by simp at h
 |c::cs,0,x,h=>by
  have:c=x:=by simpa using h
  subst this
  simp only[encs,bulkLL];omega
 |c::cs,i+1,x,h=>by
  have:=bulk_get (l:=cs) (i:=i) (by simpa using h)
  simp only[encs,bulkLL];omega
theorem len_le:∀l:List Cnd,l.length≤bulkLL (encs l)
 | []=>Nat.zero_le _
 |c::cs=>by
  have:=len_le cs
  have:1≤bulkL c.enc:=Nat.le_trans (by cases c;simp[lev]) (lev_le c)
  simp only[encs,bulkLL,List.length_cons];omega
theorem encs_len (l:List Cnd):(encs l).length=l.length:=by rw[encs_map,List.length_map]
theorem encs_get {l:List Cnd} {i:Nat} {x:Cnd} (h:l[i]? =some x):(encs l)[i]? =some x.enc:=by rw[encs_map,List.getElem?_map,h];rfl
end Cnd
set_option maxHeartbeats 4000000 in
set_option maxRecDepth 100000 in
theorem levels_c:∀(m:Nat) (n:Nat) (c:Cnd),bulkL c.enc≤m→m≤1048576→2000000+m≤n→∀st S,callD E (dcall E n) st S 124 [.agg c.enc]=some (.int .i64 c.lev,S)
 |0,n,.mk k l lx u v pf pt pd t tx,h,_,_=>by simp only[Cnd.enc,bulkL,bulkD]at h;omega
 |m+1,n,.mk k l lx u v pf pt pd t tx,h,hm,hn=>by
  obtain⟨n,rfl⟩:∃n',n=n'+1:=⟨n-1,by omega⟩
  have hc:(Cnd.mk k l lx u v pf pt pd t tx).enc=[.int .i64 k,.sl 8 (Cnd.encs l) lx,.int .i64 u,.int .i64 v,.int .i64 pf,.int .i64 pt,.int .i64 pd,.sl 1 (t.map Cnd.encT) tx]:=by rw[Cnd.enc]
  have hp:=Cnd.pure (.mk k l lx u v pf pt pd t tx)
  rw[hc]at h hp ⊢
  simp only[bulkL,bulkD]at h
  have hl:=Cnd.len_le l
  have hlv:=Cnd.levs_le l
  have hel:=Cnd.encs_len l
  have:WO (dcall E (n+1) 124 [.agg [.int .i64 k,.sl 8 (Cnd.encs l) lx,.int .i64 u,.int .i64 v,.int .i64 pf,.int .i64 pt,.int .i64 pd,.sl 1 (t.map Cnd.encT) tx]] []) fun d T=>d=.int .i64 ((Cnd.levs l+1:Nat):Int):=by
   refine wo_dcall Tryz.func124 rfl (by decide) rfl 22 rfl (fun a hal ha=>?_)
   have h0:a[0]? =some (.agg [.int .i64 k,.sl 8 (Cnd.encs l) lx,.int .i64 u,.int .i64 v,.int .i64 pf,.int .i64 pt,.int .i64 pd,.sl 1 (t.map Cnd.encT) tx]):=ha 0 (by simp)
   clear ha
   simp(maxSteps:=1000000)(disch:=omega)only[push_cast,h0,↓WX,simprocAttr]
   refine wl_loop (fun i a T=>T=[Ob.row 8 [[.int .i64 k,.sl 8 (Cnd.encs l) lx,.int .i64 u,.int .i64 v,.int .i64 pf,.int .i64 pt,.int .i64 pd,.sl 1 (t.map Cnd.encT) tx]]]∧a.length=22∧a[1]? =some (.loc 0 0 0)∧a[3]? =some (.int .i64 (Cnd.levs (l.take i)))∧a[4]? =some (.int .i64 i)) l.length ?_ (by omega) ?_
   ·simp(maxSteps:=1000000)(disch:=omega)only[push_cast,hal,Int.natCast_zero,List.take_zero,Cnd.levs,simprocAttr]
   clear hal h0 a
   rintro i a T hi ⟨rfl,hal,h1,h3,h4⟩
   rcases Nat.lt_or_eq_of_le hi with hlt |rfl
   case inr=>
    rw[List.take_length]at h3
    simp(maxSteps:=1000000)(disch:=omega)only[push_cast,hal,h1,h3,h4,hel,Int.lt_irrefl,wrap_ok,Tryz.f124,↓WX,simprocAttr]
   obtain⟨x,hx⟩:∃x,l[i]? =some x:=⟨l[i],by simp⟩
   have hltc:(i:Int)<l.length:=by omega
   have hb:=Cnd.bulk_get hx
   have cx:=levels_c m n x (by omega) (by omega) (by omega)
   have hg:=Cnd.encs_get hx
   have ht:=Cnd.levs_take hx
   obtain⟨lv,hlv'⟩:∃v,v=x.lev:=⟨_,rfl⟩
   rw[←hlv']at cx ht
   have hlb:=Cnd.lev_le x
   rw[←hlv']at hlb
   cases x with |mk k' l' lx' u' v' pf' pt' pd' t' tx'=>?_
   simp only[Cnd.enc]at cx hg
   have hmax:((max (Cnd.levs (l.take i)) lv:Nat):Int)=max ((Cnd.levs (l.take i):Nat):Int) (lv:Int):=by omega
   simp(maxSteps:=1000000)(disch:=omega)only[push_cast,hal,h1,h3,h4,hel,hltc,hlt,hg,cx,ht,hmax,wrap_ok,Int.natCast_add,Int.natCast_one,↓WX,simprocAttr]
   split <;> omega
  obtain⟨d,T,ho,rfl⟩:=this
  intro st S
  rw[show (Cnd.mk k l lx u v pf pt pd t tx).lev=Cnd.levs l+1 by rw[Cnd.lev]]
  exact callD_pure rfl (by rw[pureL_cons,D.pure,hp];rfl) ho rfl
set_option maxHeartbeats 4000000 in
set_option maxRecDepth 100000 in
theorem Size_c:∀(m:Nat) (n:Nat) (c:Cnd),bulkL c.enc≤m→m≤1048576→2000000+m≤n→∀st S,callD E (dcall E n) st S 125 [.agg c.enc]=some (.int .i64 c.siz,S)
 |0,n,.mk k l lx u v pf pt pd t tx,h,_,_=>by simp only[Cnd.enc,bulkL,bulkD]at h;omega
 |m+1,n,.mk k l lx u v pf pt pd t tx,h,hm,hn=>by
  obtain⟨n,rfl⟩:∃n',n=n'+1:=⟨n-1,by omega⟩
  have hc:(Cnd.mk k l lx u v pf pt pd t tx).enc=[.int .i64 k,.sl 8 (Cnd.encs l) lx,.int .i64 u,.int .i64 v,.int .i64 pf,.int .i64 pt,.int .i64 pd,.sl 1 (t.map Cnd.encT) tx]:=by rw[Cnd.enc]
  have hp:=Cnd.pure (.mk k l lx u v pf pt pd t tx)
  rw[hc]at h hp ⊢
  simp only[bulkL,bulkD]at h
  have hl:=Cnd.len_le l
  have hlv:=Cnd.sizs_le l
  have hel:=Cnd.encs_len l
  have:WO (dcall E (n+1) 125 [.agg [.int .i64 k,.sl 8 (Cnd.encs l) lx,.int .i64 u,.int .i64 v,.int .i64 pf,.int .i64 pt,.int .i64 pd,.sl 1 (t.map Cnd.encT) tx]] []) fun d T=>d=.int .i64 ((Cnd.sizs l+1:Nat):Int):=by
   refine wo_dcall Tryz.func125 rfl (by decide) rfl 21 rfl (fun a hal ha=>?_)
   have h0:a[0]? =some (.agg [.int .i64 k,.sl 8 (Cnd.encs l) lx,.int .i64 u,.int .i64 v,.int .i64 pf,.int .i64 pt,.int .i64 pd,.sl 1 (t.map Cnd.encT) tx]):=ha 0 (by simp)
   clear ha
   simp(maxSteps:=1000000)(disch:=omega)only[push_cast,h0,↓WX,simprocAttr]
   refine wl_loop (fun i a T=>T=[Ob.row 8 [[.int .i64 k,.sl 8 (Cnd.encs l) lx,.int .i64 u,.int .i64 v,.int .i64 pf,.int .i64 pt,.int .i64 pd,.sl 1 (t.map Cnd.encT) tx]]]∧a.length=21∧a[1]? =some (.loc 0 0 0)∧a[3]? =some (.int .i64 ((Cnd.sizs (l.take i)+1:Nat):Int))∧a[4]? =some (.int .i64 i)) l.length ?_ (by omega) ?_
   ·simp(maxSteps:=1000000)(disch:=omega)only[push_cast,hal,Int.natCast_zero,List.take_zero,Cnd.sizs,simprocAttr]
   clear hal h0 a
   rintro i a T hi ⟨rfl,hal,h1,h3,h4⟩
   rcases Nat.lt_or_eq_of_le hi with hlt |rfl
   case inr=>
    rw[List.take_length]at h3
    simp(maxSteps:=1000000)(disch:=omega)only[push_cast,hal,h1,h3,h4,hel,Int.lt_irrefl,Int.natCast_add,Int.natCast_one,Tryz.f125,↓WX,simprocAttr]
   obtain⟨x,hx⟩:∃x,l[i]? =some x:=⟨l[i],by simp⟩
   have hltc:(i:Int)<l.length:=by omega
   have hb:=Cnd.bulk_get hx
   have cx:=Size_c m n x (by omega) (by omega) (by omega)
   have hg:=Cnd.encs_get hx
   have ht:=Cnd.sizs_take hx
   obtain⟨lv,hlv'⟩:∃v,v=x.siz:=⟨_,rfl⟩
   rw[←hlv']at cx ht
   have hlb:=Cnd.siz_le x
   rw[←hlv']at hlb
   cases x with |mk k' l' lx' u' v' pf' pt' pd' t' tx'=>?_
   simp only[Cnd.enc]at cx hg
   have hbt:=Cnd.bulk_take l i
   have hst:=Cnd.sizs_le (l.take i)
   have hbt2:=Cnd.bulk_take l (i+1)
   have hst2:=Cnd.sizs_le (l.take (i+1))
   rw[ht]at hst2
   have hw:IntKind.i64.wrap (((Cnd.sizs (l.take i):Nat):Int)+1+(lv:Int))=((Cnd.sizs (l.take i):Nat):Int)+1+lv:=wrap_ok (by omega) (by omega)
   simp(maxSteps:=1000000)(disch:=omega)only[push_cast,hal,h1,h3,h4,hel,hltc,hlt,hg,cx,ht,hw,wrap_ok,Int.natCast_add,Int.natCast_one,↓WX,simprocAttr]
   omega
  obtain⟨d,T,ho,rfl⟩:=this
  intro st S
  rw[show (Cnd.mk k l lx u v pf pt pd t tx).siz=Cnd.sizs l+1 by rw[Cnd.siz]]
  exact callD_pure rfl (by rw[pureL_cons,D.pure,hp];rfl) ho rfl
end Go.Proofs.YtkemehicndccmaaGreatDoor.Dm
namespace Go.Proofs.YtkemehicndccmaaGreatDoor.Dm
open Go Gw
set_option linter.unusedSimpArgs false
set_option linter.unusedSimpArgs false

abbrev encC (p:ByteArray×Int):List D:=[.str p.1,.int .i64 p.2]
theorem el_cnt:elemT Tryz.prog 92=some 95:=by kernel_rfl
theorem sz_cnt:sizeT Tryz.prog 95=some 2:=by kernel_rfl
theorem ze_cnt:zeroT Tryz.prog 95=some (.agg [.str (ByteArray.mk #[]),.int .i64 0]):=by kernel_rfl
theorem by_cnt:bytesT Tryz.prog 95≤100000:=by
 have:bytesT Tryz.prog 95=24:=by kernel_rfl
 rw[this];omega
theorem app_cnt {S:List Ob} {d:D} {l:List (ByteArray×Int)} (h:GL 2 encC S d l) (hl:l.length≤100000) (c:ByteArray) (v:Int):
  ∃S',dAppend Tryz.prog S 92 92 d (.sl 2 [[.str c,.int .i64 v]] true)=some (.os S.length 0 (l.length+1) false,S')∧GL 2 encC S' (.os S.length 0 (l.length+1) false) (l++[(c,v)])∧S'.length=S.length+1∧(∀k o,(∀n,d=.os k 0 n false→False)→S[k]? =some o→S'[k]? =some o)∧(∀(k sz:Nat) (es:List (List D)),sz≠2→S[k]? =some (.row sz es)→S'[k]? =some (.row sz es)):=
 app_gl el_cnt sz_cnt ze_cnt rfl by_cnt h hl (c,v)
theorem KeepO.ext {o:Nat} {S T:List Ob} {lab:Lab} (h:ExtS S T):KeepO o S lab T lab:=fun x ob _ hx hl=>⟨h x ob hx,hl⟩
theorem slJ_succ {c:Nat} {y:Cab} {j:Nat} {z:Cls} (h:y.cls[j]? =some z):slJ c y (j+1)=slJ c y j++[(c,j,z)]:=by rw[slJ,h]
theorem slC_succ {cabs:List Cab} {c:Nat} {y:Cab} (h:cabs[c]? =some y):slC cabs (c+1)=slC cabs c++slJ c y y.cls.length:=by rw[slC,h]
theorem slJ_len (c:Nat) (y:Cab):∀j,(slJ c y j).length≤j
 |0=>Nat.le_refl _
 |j+1=>by
  have:=slJ_len c y j
  rw[slJ,List.length_append]
  split <;> simp <;> omega
theorem slC_len {cabs:List Cab} (h:∀y∈cabs,y.cls.length≤30):∀c,(slC cabs c).length≤30*c
 |0=>Nat.le_refl _
 |c+1=>by
  have:=slC_len h c
  rw[slC,List.length_append]
  rcases e:cabs[c]? with _ |y
  ·simp;omega
  ·have h1:=h y (List.mem_of_getElem? e)
   have h2:=slJ_len c y y.cls.length
   dsimp only;omega
def cntQ (x:Leg) (q:Nat×Nat×Cls):ByteArray×Int:=(q.2.2.code,soldAt x.sold q.1 q.2.1)
theorem countsF_eq (x:Leg):countsF x=(slC x.cfg.cabs x.cfg.cabs.length).map (cntQ x):=rfl
section
variable {S : List Ob} {lab : Lab} {o k m n : Nat} {s : Stk} {ps : List (D × D)} {id : Lid}
set_option maxHeartbeats 8000000 in
set_option maxRecDepth 100000 in
theorem Counts_d (hn:180≤n) (h:StkAt S lab o kL (.loc k 0 0) s k m ps) (ok:StkOk 9999 s) (hid:id.Ok):
  WO (dcall E (n+1) 67 [.loc k 0 0,.agg id.enc] S) fun d T=>GL 2 encC T d (s.counts id)∧ExtS S T∧∀k n,d=.os k 0 n false→S.length≤k:=by
 refine wo_dcall Tryz.func67 rfl (by decide) rfl 54 rfl (fun a hal ha=>?_)
 have h0:a[0]? =some (.loc k 0 0):=ha 0 (by simp)
 have h1:a[1]? =some (.agg id.enc):=ha 1 (by simp)
 clear ha
 unfold Stk.counts
 rcases get_at (n:=n) (by omega) (h.push [.row 4 [id.enc]]) hid with ⟨e,cg⟩ | ⟨i,p,x,e,cg,hx⟩
 ·rw[e]
  simp only[Lid.enc]at h1 cg
  simp(maxSteps:=1000000)(disch:=omega)only[push_cast,hal,h0,h1,get_end,cg,eqp_leg0,Tryz.f67,↓WX,simprocAttr]
  exact⟨GL.nil,fun j y hj=>get_old (get_old hj)⟩
 rw[e]
 have hok:=ok.get e
 have hsm:=hok.cfg.sm
 have hl4:=hok.cfg.l2
 dsimp only
 rw[countsF_eq]
 have hx1:=legAt_push hx [.row 4 [id.enc]]
 obtain⟨qq,es,hp,-,-,-⟩:=hx1.parts
 have hS1:ExtS S (S++[Ob.row 4 [id.enc]]++[Ob.row 4 [id.enc]]):=fun j y hj=>get_old (get_old hj)
 simp only[Lid.enc]at h1 cg hp
 simp(maxSteps:=1000000)(disch:=omega)only[push_cast,hal,h0,h1,get_end,cg,eqp_leg,hp,↓WX,simprocAttr]
 change ExtS S (S++[Ob.row 4 [id.enc]]++[Ob.row 4 [id.enc]]) at hS1
 simp only[Lid.enc]at hS1 hx1
 generalize hU:S++[Ob.row 4 [[D.str id.c,D.int .i64 id.n,D.int .i64 id.d,D.str id.f]]]++[Ob.row 4 [[D.str id.c,D.int .i64 id.n,D.int .i64 id.d,D.str id.f]]]=U at*
 refine wl_loop (fun c a T=>a.length=54∧a[5]? =some (.loc p 0 0)∧a[20]? =some (.sl 4 (x.cfg.cabs.map Cab.enc) x.cfg.cabsx)∧a[21]? =some (.int .i64 x.cfg.cabs.length)∧a[22]? =some (.int .i64 c)∧ExtS U T∧∃d,a[6]? =some d∧GL 2 encC T d ((slC x.cfg.cabs c).map (cntQ x))∧∀k n,d=.os k 0 n false→U.length≤k) x.cfg.cabs.length ?_ (by omega) ?_
 ·simp(maxSteps:=1000000)(disch:=omega)only[push_cast,hal,Int.natCast_zero,simprocAttr]
  exact⟨ExtS.refl,_,rfl,GL.nil,fun k n h=>by cases h⟩
 clear hal h0 h1 a
 rintro c a T hc ⟨hal,h5,h20,h21,h22,hx0,d,h6,hg,hd⟩
 rcases Nat.lt_or_eq_of_le hc with hlt |rfl
 case inr=>
  simp(maxSteps:=1000000)(disch:=omega)only[push_cast,hal,h6,h21,h22,Nat.lt_irrefl,Tryz.f67,↓WX,simprocAttr]
  exact⟨hg,hS1.trans hx0,fun k n e=>Nat.le_trans hS1.len (hd k n e)⟩
 obtain⟨y,hy⟩:∃y,x.cfg.cabs[c]? =some y:=⟨x.cfg.cabs[c],by simp[hlt]⟩
 obtain⟨row,hrow,hrl,hyo⟩:=leg_sizes hok hy
 have hl26:=hyo.l2
 have hcs:c<x.sold.length:=lt_of_get hrow
 have hlen:=slC_len hsm.cls c
 simp(maxSteps:=1000000)(disch:=omega)only[push_cast,hal,h20,h21,h22,hlt,hy,set_end,get_end,Cab.enc,↓WX,simprocAttr]
 refine wl_loop (fun j a T=>a.length=54∧a[5]? =some (.loc p 0 0)∧a[7]? =some (.int .i64 c)∧a[20]? =some (.sl 4 (x.cfg.cabs.map Cab.enc) x.cfg.cabsx)∧a[21]? =some (.int .i64 x.cfg.cabs.length)∧a[22]? =some (.int .i64 c)∧a[28]? =some (.sl 2 (y.cls.map Cls.enc) y.clsx)∧a[29]? =some (.int .i64 y.cls.length)∧a[30]? =some (.int .i64 j)∧ExtS U T∧∃d,a[6]? =some d∧GL 2 encC T d ((slC x.cfg.cabs c++slJ c y j).map (cntQ x))∧∀k n,d=.os k 0 n false→U.length≤k) y.cls.length ?_ (by omega) ?_
 ·simp(maxSteps:=1000000)(disch:=omega)only[push_cast,hal,h5,h6,h20,h21,h22,Int.natCast_zero,slJ,simprocAttr]
  exact⟨fun j o hj=>get_old (hx0 j o hj),_,rfl,hg.push _,hd⟩
 clear h6 hg hd hx0
 clear hal h5 h20 h21 h22 a
 clear d T
 rintro j a T hj ⟨hal,h5,h7,h20,h21,h22,h28,h29,h30,hx0,d,h6,hg,hd⟩
 rcases Nat.lt_or_eq_of_le hj with hlj |rfl
 case inr=>
  rw[←slC_succ hy]at hg
  simp(maxSteps:=1000000)(disch:=omega)only[push_cast,hal,h5,h6,h20,h21,h22,h29,h30,Nat.lt_irrefl,hlt,wrap_ok,Int.natCast_add,Int.natCast_one,↓WX,simprocAttr]
  exact⟨hx0,_,rfl,hg,hd⟩
 obtain⟨z,hz⟩:∃z,y.cls[j]? =some z:=⟨y.cls[j],by simp[hlj]⟩
 have hlenj:=slJ_len c y j
 have hxl:=(hx1.keep (KeepO.ext hx0)).keep (KeepO.push (J:=[Ob.row 2 [[.str z.code,.int .i64 z.prot]]]))
 obtain⟨qq,es,hp,hq,-,hr⟩:=hxl.parts
 obtain⟨r,hr1,-,hr3⟩:=hr c row hrow
 obtain⟨v,hv⟩:∃v,row[j]? =some v:=⟨row[j],by simp[hrl,hlj]⟩
 have hjr:j<row.length:=by omega
 have hcq:cntQ x (c,j,z)=(z.code,v):=by simp[cntQ,soldAt,hrow,hv]
 obtain⟨T',ha,hg',hlen',hkeep,hrw⟩:=app_cnt (hg.push (Ob.row 2 [[.str z.code,.int .i64 z.prot]])) (by rw[List.length_map,List.length_append];omega) z.code v
 rw[List.length_map]at ha hg'
 rw[←hcq,←List.map_singleton (f:=cntQ x),←List.map_append,List.append_assoc,←slJ_succ hz]at hg'
 simp(maxSteps:=1000000)(disch:=omega)only[push_cast,hal,h5,h6,h7,h20,h21,h22,h28,h29,h30,hlj,hz,set_end,get_end,hp,hq,hr1,hr3,hcs,hjr,hv,ha,Cls.enc,wrap_ok,Int.natCast_add,Int.natCast_one,↓WX,simprocAttr]
 refine⟨fun j' o hj'=>hkeep j' o (fun n e=>?_) (get_old (hx0 j' o hj')),_,rfl,hg',fun k n e=>?_⟩
 ·have:=hd _ _ e
  have:=lt_of_get hj'
  omega
 ·injection e with e1
  have:=hx0.len
  rw[←e1,List.length_append]
  omega
theorem Counts_c (hn:190≤n) (h:StkAt S lab o kL (.loc k 0 0) s k m ps) (ok:StkOk 9999 s) (hid:id.Ok):
  ∃d T,(∀st,callD E (dcall E n) st S 67 [.loc k 0 0,.agg id.enc]=some (d,T))∧GL 2 encC T d (s.counts id)∧ExtS S T∧∀k n,d=.os k 0 n false→S.length≤k:=by
 obtain⟨q,rfl⟩:∃q,n=q+1:=⟨n-1,by omega⟩
 obtain⟨d,T,ho,h1,h2,h3⟩:=Counts_d (n:=q) (by omega) h ok hid
 exact⟨d,T,fun st=>callD_extS rfl ho h2,h1,h2,h3⟩
end
end Go.Proofs.YtkemehicndccmaaGreatDoor.Dm
