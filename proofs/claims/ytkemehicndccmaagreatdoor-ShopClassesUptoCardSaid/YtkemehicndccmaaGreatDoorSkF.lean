/-
  The machine at the program's inventory: the legs of a sale.
  The machine at the program's inventory: Sell and Cancel.
  The machine at the program's inventory: Resize.
-/
import Derived.Test.YtkemehicndccmaaGreatDoorSkE
set_option linter.unusedSimpArgs false
set_option linter.unusedVariables false
namespace Go.Proofs.YtkemehicndccmaaGreatDoor.Dm
open Go Gw
set_option linter.unusedSimpArgs false
set_option linter.unusedSimpArgs false

abbrev encP (p:Nat):List D:=[.loc p 0 0]
theorem el_ptr:elemT Tryz.prog 150=some 137:=by kernel_rfl
theorem sz_ptr:sizeT Tryz.prog 137=some 1:=by kernel_rfl
theorem ze_ptr:zeroT Tryz.prog 137=some .nilp:=by kernel_rfl
theorem by_ptr:bytesT Tryz.prog 137≤100000:=by
 have:bytesT Tryz.prog 137=8:=by kernel_rfl
 rw[this];omega
theorem app_ptr {S:List Ob} {d:D} {l:List Nat} (h:GL 1 encP S d l) (hl:l.length≤100000) (p:Nat):
  ∃S',dAppend Tryz.prog S 150 150 d (.sl 1 [[.loc p 0 0]] true)=some (.os S.length 0 (l.length+1) false,S')∧GL 1 encP S' (.os S.length 0 (l.length+1) false) (l++[p])∧S'.length=S.length+1∧(∀k o,(∀n,d=.os k 0 n false→False)→S[k]? =some o→S'[k]? =some o)∧(∀(k sz:Nat) (es:List (List D)),sz≠1→S[k]? =some (.row sz es)→S'[k]? =some (.row sz es)):=
 app_gl el_ptr sz_ptr ze_ptr rfl by_ptr h hl p
set_option maxHeartbeats 4000000 in
set_option maxRecDepth 100000 in
theorem idxP_d {n k g:Nat} {xs ys:List D} {pr:Nat→Bool} {l:List Nat} {S:List Ob} (hl:l.length≤100) (hn:110≤n) (hk:S[k]? =some (.row 1 (l.map encP)))
  (hg:∀p∈l,callD E (dcall E n) false S g (xs++[.loc p 0 0]++ys)=some (.bool (pr p),S)):
  WO (dcall E (n+1) 109 [.os k 0 l.length false,.func g xs ys] S) fun r T=>r=.int .i64 (fdx pr 0 l)∧T=S:=by
 refine wo_dcall Tryz.func109 rfl (by decide) rfl 19 rfl (fun a hal ha=>?_)
 have h0:a[0]? =some (.os k 0 l.length false):=ha 0 (by simp)
 have h1:a[1]? =some (.func g xs ys):=ha 1 (by simp)
 clear ha
 simp(maxSteps:=1000000)(disch:=omega)only[push_cast,hal,h0,↓WX,simprocAttr]
 refine wl_loop (fun i a T=>T=S∧a.length=19∧a[0]? =some (.os k 0 l.length false)∧a[1]? =some (.func g xs ys)∧a[7]? =some (.int .i64 l.length)∧a[8]? =some (.int .i64 i)∧fdx pr 0 l=fdx pr i (l.drop i)) l.length ?_ (by omega) ?_
 ·simp(maxSteps:=1000000)(disch:=omega)only[push_cast,hal,h0,h1,Int.natCast_zero,simprocAttr]
 clear hal h0 h1 a
 rintro i a T hi ⟨rfl,hal,h0,h1,h7,h8,hv⟩
 rcases Nat.lt_or_eq_of_le hi with hlt |rfl
 case inr=>
  rw[List.drop_length,fdx]at hv
  simp(maxSteps:=1000000)(disch:=omega)only[push_cast,hal,h7,h8,Nat.lt_irrefl,Tryz.f109,↓WX,simprocAttr]
  exact hv.symm
 obtain⟨v,hq⟩:∃v,l[i]? =some v:=⟨l[i],by simp⟩
 rw[drop_at hq,fdx]at hv
 have cv:=hg v (List.mem_of_getElem? hq)
 cases hp:pr v
 ·rw[hp,if_neg (by simp)]at hv
  rw[hp]at cv
  simp(maxSteps:=1000000)(disch:=omega)only[push_cast,hal,h0,h1,h7,h8,↓wo_callv,callV_func,hlt,hq,hk,cv,wrap_ok,Int.natCast_add,Int.natCast_one,↓WX,simprocAttr]
  exact hv
 ·rw[hp,if_pos rfl]at hv
  rw[hp]at cv
  simp(maxSteps:=1000000)(disch:=omega)only[push_cast,hal,h0,h1,h7,h8,↓wo_callv,callV_func,hlt,hq,hk,cv,Tryz.f109,↓WX,simprocAttr]
  exact hv.symm
theorem hasP_c {n k g:Nat} {xs ys:List D} {pr:Nat→Bool} {l:List Nat} {S:List Ob} (hl:l.length≤100) (hn:112≤n) (hk:S[k]? =some (.row 1 (l.map encP)))
  (hg:∀p∈l,callD E (dcall E (n-2)) false S g (xs++[.loc p 0 0]++ys)=some (.bool (pr p),S)):
  callD E (dcall E n) false S 57 [.os k 0 l.length false,.func g xs ys]=some (.bool (l.any pr),S):=by
 obtain⟨m,rfl⟩:∃m,n=m+2:=⟨n-2,by omega⟩
 obtain⟨_,T',ho,rfl,rfl⟩:=idxP_d hl (by omega) hk hg
 have q1:=(callD_own (f:=109) rfl (by simp[pureL_cons,D.pure])).trans ho
 rw[Nat.add_sub_cancel]at q1
 have:WO (dcall E (m+2) 57 [.os k 0 l.length false,.func g xs ys] T') fun r U=>r=.bool (l.any pr)∧U=T':=by
  refine wo_dcall Tryz.func57 rfl (by decide) rfl 9 rfl (fun a hal ha=>?_)
  have h0:a[0]? =some (.os k 0 l.length false):=ha 0 (by simp)
  have h1:a[1]? =some (.func g xs ys):=ha 1 (by simp)
  clear ha
  rw[←fdx_any pr l 0]
  simp(maxSteps:=1000000)(disch:=omega)only[push_cast,hal,h0,h1,q1,ge_iff_le,Tryz.f57,↓WX,simprocAttr]
 obtain⟨_,U,ho,rfl,rfl⟩:=this
 exact (callD_own rfl (by simp[pureL_cons,D.pure])).trans ho
theorem find1_c {n p:Nat} {c0 c1 c2:D} {b:Bool} {S:List Ob} (hn:1≤n) (hp:S[p]? =some (.row 4 [[c0,c1,c2,.bool b]])):callD E (dcall E n) false S 108 [.loc p 0 0]=some (.bool b,S):=by
 obtain⟨m,rfl⟩:∃m,n=m+1:=⟨n-1,by omega⟩
 have:WO (dcall E (m+1) 108 [.loc p 0 0] S) fun r T=>r=.bool b∧T=S:=by
  refine wo_dcall Tryz.func108 rfl (by decide) rfl 7 rfl (fun a hal ha=>?_)
  have h0:a[0]? =some (.loc p 0 0):=ha 0 (by simp)
  clear ha
  simp(maxSteps:=1000000)(disch:=omega)only[push_cast,hal,h0,hp,Tryz.f108,↓WX,simprocAttr]
 obtain⟨_,U,ho,rfl,rfl⟩:=this
 exact (callD_own rfl rfl).trans ho

/-! ### The legs of a sale -/
def clB (U:List Ob) (p:Nat):Bool:=match U[p]? with
 |some (.row _ [[_,_,_,.bool b]])=>b
 |_=>false
structure PtrAt (S:List Ob) (lab:Lab) (o:Nat) (s:Stk) (ps:List (D×D)) (cl:ByteArray) (id:Lid) (p:Nat):Prop where
 x:∃i x q,s.legs[i]? =some (id,x)∧ps[i]? =some (.agg id.enc,.loc p 0 0)∧s.get id=some x∧LegAt S lab o i p x∧placeF cl 0 x.cfg.cabs=some q
section
variable {S : List Ob} {lab : Lab} {o k m n : Nat} {s : Stk} {ps : List (D × D)} {ids : List Lid}
theorem mem_at {α:Type} {l:List α} {i:Nat} {x:α} (h:l[i]? =some x):x∈l:=List.mem_of_getElem? h
set_option maxHeartbeats 8000000 in
set_option maxRecDepth 100000 in
theorem find_d (hn:180≤n) (h:StkAt S lab o kL (.loc k 0 0) s k m ps) (ok:StkOk 9999 s) (hl:ids.length≤20) (hids:∀id∈ids,id.Ok) {di:D} (hdi:FLs 4 Lid.enc di ids) (cl:ByteArray) (w:Int) (sale:Bool):
  WO (dcall E (n+1) 56 [.loc k 0 0,di,.str cl,.int .i64 w,.bool sale] S) fun r T=>∃d,r=.tup [d,.int .i64 (s.named ids cl w sale)]∧ExtS S T∧
   (s.named ids cl w sale=0→∃(q:Nat) (pl:List Nat),d=.os q 0 pl.length false∧S.length≤q∧T[q]? =some (.row 1 (pl.map encP))∧pl.length=ids.length∧∀(j:Nat) (id:Lid) (p:Nat),ids[j]? =some id→pl[j]? =some p→PtrAt T lab o s ps cl id p):=by
 refine wo_dcall Tryz.func56 rfl (by decide) rfl 97 rfl (fun a hal ha=>?_)
 have h0:a[0]? =some (.loc k 0 0):=ha 0 (by simp)
 have h1:a[1]? =some (di):=ha 1 (by simp)
 have h2:a[2]? =some (.str cl):=ha 2 (by simp)
 have h3:a[3]? =some (.int .i64 w):=ha 3 (by simp)
 have h4:a[4]? =some (.bool sale):=ha 4 (by simp)
 clear ha
 have cm:=made_c (n:=n) (by omega) h.row
 by_cases b1:w<1
 ·rw[named_arg (.inl b1)]
  rcases hdi with ⟨rfl,rfl⟩ | ⟨x,rfl⟩
  ·simp(maxSteps:=1000000)(disch:=omega)only[push_cast,hal,h0,h3,cm,b1,dUn,Tryz.f56,↓WX,simprocAttr]
   exact⟨_,rfl,ExtS.refl⟩
  ·simp(maxSteps:=1000000)(disch:=omega)only[push_cast,hal,h0,h3,cm,b1,dUn,Tryz.f56,↓WX,simprocAttr]
   exact⟨_,rfl,ExtS.refl⟩
 by_cases b2:ids=[]
 ·rw[named_arg (.inr b2)]
  subst b2
  rcases hdi with ⟨rfl,-⟩ | ⟨x,rfl⟩
  ·simp(maxSteps:=1000000)(disch:=omega)only[push_cast,hal,h0,h1,h3,cm,b1,dUn,Tryz.f56,↓WX,simprocAttr]
   exact⟨_,rfl,ExtS.refl⟩
  ·simp(maxSteps:=1000000)(disch:=omega)only[push_cast,hal,h0,h1,h3,cm,b1,dUn,Int.natCast_zero,Tryz.f56,↓WX,simprocAttr]
   exact⟨_,rfl,ExtS.refl⟩
 have b0:¬(w<1∨ids=[]):=by rintro (h |h);exact b1 h;exact b2 h
 obtain⟨x,rfl⟩:∃x,di=.sl 4 (ids.map Lid.enc) x:=by
  rcases hdi with ⟨-,e⟩ |h
  ·exact absurd e b2
  ·exact h
 have b3:¬(ids.length:Int)=0:=fun e=>b2 (List.eq_nil_of_length_eq_zero (by omega))
 simp(maxSteps:=1000000)(disch:=omega)only[push_cast,hal,h0,h1,h3,cm,b1,b3,dUn,↓WX,simprocAttr]
 refine wl_loop (fun i a T=>T=S∧a.length=97∧a[0]? =some (.loc k 0 0)∧a[1]? =some (.sl 4 (ids.map Lid.enc) x)∧a[2]? =some (.str cl)∧a[4]? =some (.bool sale)∧a[34]? =some (.int .i64 ids.length)∧a[35]? =some (.int .i64 i)∧(ids.take i).Nodup) ids.length ?_ (by omega) ?_
 ·simp(maxSteps:=1000000)(disch:=omega)only[push_cast,hal,h0,h1,h2,h4,Int.natCast_zero,List.take_zero,List.nodup_nil,simprocAttr]
 clear hal h0 h1 h2 h3 h4 a
 rintro i a T hi ⟨rfl,hal,h0,h1,h2,h4,h34,h35,hnd⟩
 rcases Nat.lt_or_eq_of_le hi with hlt |rfl
 ·obtain⟨id,hq⟩:∃id,ids[i]? =some id:=⟨ids[i],by simp⟩
  simp(maxSteps:=1000000)(disch:=omega)only[push_cast,hal,h34,h35,hlt,↓WX,simprocAttr]
  refine wl_loop (fun j a U=>U=T∧a.length=97∧a[0]? =some (.loc k 0 0)∧a[1]? =some (.sl 4 (ids.map Lid.enc) x)∧a[2]? =some (.str cl)∧a[4]? =some (.bool sale)∧a[12]? =some (.int .i64 i)∧a[34]? =some (.int .i64 ids.length)∧a[35]? =some (.int .i64 i)∧a[38]? =some (.int .i64 i)∧a[39]? =some (.int .i64 j)∧∀k,k<j→ids[k]? ≠some id) i ?_ (by omega) ?_
  ·simp(maxSteps:=1000000)(disch:=omega)only[push_cast,ne_eq,hal,h0,h1,h2,h4,h34,h35,Int.natCast_zero,simprocAttr]
   exact fun k hk=>by omega
  clear hal h0 h1 h2 h4 h34 h35 a
  rintro j a U hj ⟨rfl,hal,h0,h1,h2,h4,h12,h34,h35,h38,h39,hne⟩
  rcases Nat.lt_or_eq_of_le hj with hlj |rfl
  case inr=>
   simp(maxSteps:=1000000)(disch:=omega)only[push_cast,ne_eq,hal,h0,h1,h2,h4,h34,h35,h38,h39,Nat.lt_irrefl,hlt,wrap_ok,Int.natCast_add,Int.natCast_one,↓WX,simprocAttr]
   exact take_nodup hnd hq hne
  obtain⟨id',hq'⟩:∃id',ids[j]? =some id':=⟨ids[j]'(by omega),by simp⟩
  have he:=eq_lid id' id
  have hpl:=plain_lid
  by_cases e:id'=id
  ·subst e
   rw[named_twice b0 (dup_of hlj hq' hq)]
   rw[decide_eq_true rfl]at he
   simp only[Lid.enc]at he
   simp(maxSteps:=1000000)(disch:=omega)only[push_cast,ne_eq,hal,h1,h12,h38,h39,hlj,hq,hq',he,hpl,Lid.enc,Tryz.f56,↓WX,simprocAttr]
   exact⟨_,rfl,ExtS.refl⟩
  ·rw[decide_eq_false e]at he
   simp only[Lid.enc]at he
   simp(maxSteps:=1000000)(disch:=omega)only[push_cast,ne_eq,hal,h0,h1,h2,h4,h12,h34,h35,h38,h39,hlj,hq,hq',he,hpl,Lid.enc,wrap_ok,Int.natCast_add,Int.natCast_one,↓WX,simprocAttr]
   intro k' hk'
   by_cases ek:k'=j
   ·subst ek
    rw[hq']
    intro e'
    exact e (Option.some.inj e')
   ·exact hne k' (by omega)
 rw[List.take_length]at hnd
 have hxm:=h.map
 have hxr:=h.row
 simp(maxSteps:=1000000)(disch:=omega)only[push_cast,hal,h1,h34,h35,Nat.lt_irrefl,↓WX,simprocAttr]
 refine wl_loop (fun i a U=>a.length=97∧a[0]? =some (.loc k 0 0)∧a[1]? =some (.sl 4 (ids.map Lid.enc) x)∧a[2]? =some (.str cl)∧a[4]? =some (.bool sale)∧a[53]? =some (.sl 4 (ids.map Lid.enc) x)∧a[54]? =some (.int .i64 ids.length)∧a[55]? =some (.int .i64 i)∧ExtS T U∧∃d pl,a[14]? =some d∧GL 1 encP U d pl∧pl.length=i∧(∀k n,d=.os k 0 n false→T.length≤k)∧∀(j:Nat) (id:Lid) (p:Nat),ids[j]? =some id→pl[j]? =some p→∃i x,s.legs[i]? =some (id,x)∧ps[i]? =some (.agg id.enc,.loc p 0 0)∧s.get id=some x∧LegAt T lab o i p x) ids.length ?_ (by omega) ?_
 ·simp(maxSteps:=1000000)(disch:=omega)only[push_cast,hal,h0,h1,h2,h4,Int.natCast_zero,simprocAttr]
  exact⟨ExtS.refl,_,[],rfl,GL.nil,rfl,fun k n h=>(by cases h),fun j id p h1 h2=>by simp at h2⟩
 clear hal h0 h1 h2 h4 h34 h35 a
 clear hi
 rintro i a U hi ⟨hal,h0,h1,h2,h4,h53,h54,h55,hx,d,pl,h14,hg,hpl,hd,hq⟩
 have hxmU:=hx m _ hxm
 have hxrU:=hx k _ hxr
 rcases Nat.lt_or_eq_of_le hi with hlt |rfl
 ·obtain⟨id,hid⟩:∃id,ids[i]? =some id:=⟨ids[i],by simp⟩
  have kl:=keyOk_lid (hids id (mem_at hid))
  have ks:=keys_lid
  have hxmB:∀ob,(U++[ob])[m]? =some (.map kL ps):=fun ob=>get_old hxmU
  have hxrB:∀ob,(U++[ob])[k]? =some (.row 2 [[.sl 2 (s.l.map Cfg.enc) s.x,.map m]]):=fun ob=>get_old hxrU
  rcases h.look id with ⟨e1,e2⟩ | ⟨li,y,p,g1,-,e1,e2,g2,g3⟩
  ·rw[named_none b0 hnd ⟨id,mem_at hid,e1⟩]
   simp only[Lid.enc]at kl e2
   simp(maxSteps:=1000000)(disch:=omega)only[push_cast,hal,h0,h53,h54,h55,hlt,hid,set_end,get_end,hxmB,hxrB,kl,ks,e2,eqp_leg0,Lid.enc,Tryz.f56,↓WX,simprocAttr]
   exact⟨_,rfl,hx.push _⟩
  ·obtain⟨T',ha,hg',hlen,hkeep,-⟩:=app_ptr (hg.push (.row 4 [id.enc])) (by omega) p
   rw[hpl]at ha hg'
   simp only[Lid.enc]at kl e2 ha
   simp(maxSteps:=1000000)(disch:=omega)only[push_cast,hal,h0,h1,h2,h4,h14,h53,h54,h55,hlt,hid,set_end,get_end,hxmB,hxrB,kl,ks,e2,ha,eqp_leg,Lid.enc,wrap_ok,Int.natCast_add,Int.natCast_one,↓WX,simprocAttr]
   refine⟨fun j' ob hj'=>hkeep j' ob (fun n e=>?_) (get_old (hx j' ob hj')),_,_,rfl,hg',by simp[hpl],fun k n e=>?_,fun j id' p' h1 h2=>?_⟩
   ·have:=hd _ _ e
    have:=lt_of_get hj'
    omega
   ·injection e with e1
    have:=hx.len
    rw[←e1,List.length_append]
    omega
   ·rcases get_snoc h2 with h2 | ⟨rfl,rfl⟩
    ·exact hq j id' p' h1 h2
    ·rw[hpl,hid]at h1
     cases h1
     exact⟨li,y,g1,g2,e1,g3⟩
 have hsome:∀id∈ids,∃y,s.get id=some y:=fun id hid=>by
  obtain⟨j,hj⟩:=List.mem_iff_getElem?.1 hid
  have hjl:=lt_of_get hj
  obtain⟨i,y,-,-,e,-⟩:=hq j id (pl[j]'(by omega)) hj (List.getElem?_eq_getElem (by omega))
  exact⟨y,e⟩
 obtain⟨q,rfl,hqU⟩:∃q,d=.os q 0 pl.length false∧U[q]? =some (.row 1 (pl.map encP)):=by
  rcases hg with ⟨-,e⟩ |h
  ·rw[e]at hpl
   exact absurd (List.eq_nil_of_length_eq_zero hpl.symm) b2
  ·exact h
 have hidx:∀p∈pl,∃id∈ids,∃i y,s.legs[i]? =some (id,y)∧ps[i]? =some (.agg id.enc,.loc p 0 0)∧s.get id=some y∧LegAt T lab o i p y:=fun p hp=>by
  obtain⟨j,hj⟩:=List.mem_iff_getElem?.1 hp
  have hjl:=lt_of_get hj
  have hji:ids[j]? =some (ids[j]'(by omega)):=List.getElem?_eq_getElem (by omega)
  exact⟨_,mem_at hji,hq j _ p hji hj⟩
 have hidy:∀id∈ids,∃p∈pl,∃i y,s.legs[i]? =some (id,y)∧s.get id=some y∧LegAt T lab o i p y:=fun id hid=>by
  obtain⟨j,hj⟩:=List.mem_iff_getElem?.1 hid
  have hjl:=lt_of_get hj
  have hjp:pl[j]? =some (pl[j]'(by omega)):=List.getElem?_eq_getElem (by omega)
  obtain⟨i,y,e1,e2,e3,e4⟩:=hq j id _ hj hjp
  exact⟨_,mem_at hjp,i,y,e1,e3,e4⟩
 have hcell:∀i p y,LegAt T lab o i p y→∃c2,U[p]? =some (.row 4 [[.str y.cfg.equip,.sl 4 (y.cfg.cabs.map Cab.enc) y.cfg.cabsx,c2,.bool y.closed]]):=fun i p y hy=>by
  obtain⟨qq,es,hp,-,-,-⟩:=hy.parts
  exact⟨_,hx _ _ hp⟩
 have hpr:∀i p y,LegAt T lab o i p y→clB U p=y.closed:=fun i p y hy=>by
  obtain⟨c2,hp⟩:=hcell i p y hy
  unfold clB
  rw[hp]
 have hcl:=hasP_c (n:=n) (g:=108) (xs:=[]) (ys:=[]) (pr:=clB U) (l:=pl) (S:=U) (by omega) (by omega) hqU (fun p hp=>by
  obtain⟨id,-,i,y,-,-,-,e4⟩:=hidx p hp
  obtain⟨c2,hp⟩:=hcell i p y e4
  rw[hpr i p y e4]
  exact find1_c (by omega) hp)
 have hst:sale=false∨pl.any (clB U)=false→sale=false∨∀id∈ids,∀y,s.get id=some y→y.closed=false:=fun h=>by
  rcases h with h |h
  ·exact .inl h
  ·refine .inr fun id hid y hy=>?_
   obtain⟨p,hp,i,y',-,e,e4⟩:=hidy id hid
   rw[hy]at e
   cases e
   rw[List.any_eq_false]at h
   have:=h p hp
   rw[hpr i p y e4]at this
   simpa using this
 by_cases b4:sale=true∧pl.any (clB U)=true
 ·obtain⟨b4,b5⟩:=b4
  rw[b5]at hcl
  obtain⟨p,hp,hpc⟩:=List.any_eq_true.1 b5
  obtain⟨id,hid,i',y,-,-,e,e4⟩:=hidx p hp
  rw[hpr i' p y e4]at hpc
  rw[named_state b0 hnd hsome b4 ⟨id,hid,y,e,hpc⟩]
  subst b4
  simp(maxSteps:=1000000)(disch:=omega)only[push_cast,hal,h4,h14,h54,h55,Nat.lt_irrefl,hcl,Tryz.f56,↓WX,simprocAttr]
  exact⟨_,rfl,hx⟩
 have b5:sale=false∨pl.any (clB U)=false:=by
  cases sale
  ·exact .inl rfl
  ·right
   cases hb:pl.any (clB U)
   ·rfl
   ·exact absurd ⟨rfl,hb⟩ b4
 have b6:=hst b5
 have hfin:(∀id∈ids,∀y,s.get id=some y→∃q,placeF cl 0 y.cfg.cabs=some q)→∀(j:Nat) (id:Lid) (p:Nat),ids[j]? =some id→pl[j]? =some p→PtrAt U lab o s ps cl id p:=fun hp j id p h1 h2=>by
  obtain⟨i,y,e1,e2,e3,e4⟩:=hq j id p h1 h2
  obtain⟨q',hq'⟩:=hp id (mem_at h1) y e3
  exact⟨i,y,q',e1,e2,e3,e4.keep (KeepO.ext hx),hq'⟩
 cases sale
 case false=>
  simp(maxSteps:=1000000)(disch:=omega)only[push_cast,hal,h4,h14,h54,h55,Nat.lt_irrefl,↓WX,simprocAttr]
  refine wl_loop (fun i a V=>V=U∧a.length=97∧a[2]? =some (.str cl)∧a[14]? =some (.os q 0 pl.length false)∧a[77]? =some (.os q 0 pl.length false)∧a[78]? =some (.int .i64 pl.length)∧a[79]? =some (.int .i64 i)∧∀j id y,j<i→ids[j]? =some id→s.get id=some y→∃q,placeF cl 0 y.cfg.cabs=some q) pl.length ?_ (by omega) ?_
  ·simp(maxSteps:=1000000)(disch:=omega)only[push_cast,hal,h2,h14,Int.natCast_zero,simprocAttr]
   exact fun j id y h=>by omega
  clear hal h0 h1 h2 h4 h14 h53 h54 h55 a
  clear hi
  rintro i a V hi ⟨rfl,hal,h2,h14,h77,h78,h79,hpd⟩
  rcases Nat.lt_or_eq_of_le hi with hlt |rfl
  case inr=>
   have hall:∀id∈ids,∀y,s.get id=some y→∃q,placeF cl 0 y.cfg.cabs=some q:=fun id hid y hy=>by
    obtain⟨j,hj⟩:=List.mem_iff_getElem?.1 hid
    exact hpd j id y (by have:=lt_of_get hj;omega) hj hy
   rw[named_ok b0 hnd hsome b6 hall]
   simp(maxSteps:=1000000)(disch:=omega)only[push_cast,hal,h14,h78,h79,Nat.lt_irrefl,Tryz.f56,↓WX,simprocAttr]
   exact⟨_,rfl,hx,q,pl,rfl,hd _ _ rfl,hqU,hpl,hfin hall⟩
  obtain⟨p,hp⟩:∃p,pl[i]? =some p:=⟨pl[i],by simp⟩
  obtain⟨id,hid⟩:∃id,ids[i]? =some id:=⟨ids[i]'(by omega),by simp⟩
  obtain⟨li,y,e1,e2,e3,e4⟩:=hq i id p hid hp
  obtain⟨c2,hpc⟩:=hcell li p y e4
  have cp:=Place_c (n:=n) (cl:=cl) (by omega) (ok.get e3).cfg.sm
  simp only[Cfg.enc]at cp
  rcases hpl2:placeF cl 0 y.cfg.cabs with _ | ⟨a',b'⟩
  ·rw[named_class b0 hnd hsome b6 ⟨id,mem_at hid,y,e3,hpl2⟩]
   rw[hpl2]at cp
   simp only[placeD]at cp
   simp(maxSteps:=1000000)(disch:=omega)only[push_cast,hal,h2,h77,h78,h79,hlt,hqU,hp,hpc,cp,dUn,Tryz.f56,↓WX,simprocAttr]
   exact⟨_,rfl,hx⟩
  ·rw[hpl2]at cp
   simp only[placeD]at cp
   simp(maxSteps:=1000000)(disch:=omega)only[push_cast,hal,h2,h14,h77,h78,h79,hlt,hqU,hp,hpc,cp,dUn,wrap_ok,Int.natCast_add,Int.natCast_one,↓WX,simprocAttr]
   intro j id' y' hj h1 h2
   by_cases ej:j=i
   ·subst ej
    rw[hid]at h1
    cases h1
    rw[e3]at h2
    cases h2
    exact⟨_,hpl2⟩
   ·exact hpd j id' y' (by omega) h1 h2
 case true=>
  have b7:pl.any (clB U)=false:=by
   rcases b5 with h |h
   ·cases h
   ·exact h
  rw[b7]at hcl
  simp(maxSteps:=1000000)(disch:=omega)only[push_cast,hal,h4,h14,h54,h55,Nat.lt_irrefl,hcl,↓WX,simprocAttr]
  refine wl_loop (fun i a V=>V=U∧a.length=97∧a[2]? =some (.str cl)∧a[14]? =some (.os q 0 pl.length false)∧a[77]? =some (.os q 0 pl.length false)∧a[78]? =some (.int .i64 pl.length)∧a[79]? =some (.int .i64 i)∧∀j id y,j<i→ids[j]? =some id→s.get id=some y→∃q,placeF cl 0 y.cfg.cabs=some q) pl.length ?_ (by omega) ?_
  ·simp(maxSteps:=1000000)(disch:=omega)only[push_cast,hal,h2,h14,Int.natCast_zero,simprocAttr]
   exact fun j id y h=>by omega
  clear hal h0 h1 h2 h4 h14 h53 h54 h55 a
  clear hi
  rintro i a V hi ⟨rfl,hal,h2,h14,h77,h78,h79,hpd⟩
  rcases Nat.lt_or_eq_of_le hi with hlt |rfl
  case inr=>
   have hall:∀id∈ids,∀y,s.get id=some y→∃q,placeF cl 0 y.cfg.cabs=some q:=fun id hid y hy=>by
    obtain⟨j,hj⟩:=List.mem_iff_getElem?.1 hid
    exact hpd j id y (by have:=lt_of_get hj;omega) hj hy
   rw[named_ok b0 hnd hsome b6 hall]
   simp(maxSteps:=1000000)(disch:=omega)only[push_cast,hal,h14,h78,h79,Nat.lt_irrefl,Tryz.f56,↓WX,simprocAttr]
   exact⟨_,rfl,hx,q,pl,rfl,hd _ _ rfl,hqU,hpl,hfin hall⟩
  obtain⟨p,hp⟩:∃p,pl[i]? =some p:=⟨pl[i],by simp⟩
  obtain⟨id,hid⟩:∃id,ids[i]? =some id:=⟨ids[i]'(by omega),by simp⟩
  obtain⟨li,y,e1,e2,e3,e4⟩:=hq i id p hid hp
  obtain⟨c2,hpc⟩:=hcell li p y e4
  have cp:=Place_c (n:=n) (cl:=cl) (by omega) (ok.get e3).cfg.sm
  simp only[Cfg.enc]at cp
  rcases hpl2:placeF cl 0 y.cfg.cabs with _ | ⟨a',b'⟩
  ·rw[named_class b0 hnd hsome b6 ⟨id,mem_at hid,y,e3,hpl2⟩]
   rw[hpl2]at cp
   simp only[placeD]at cp
   simp(maxSteps:=1000000)(disch:=omega)only[push_cast,hal,h2,h77,h78,h79,hlt,hqU,hp,hpc,cp,dUn,Tryz.f56,↓WX,simprocAttr]
   exact⟨_,rfl,hx⟩
  ·rw[hpl2]at cp
   simp only[placeD]at cp
   simp(maxSteps:=1000000)(disch:=omega)only[push_cast,hal,h2,h14,h77,h78,h79,hlt,hqU,hp,hpc,cp,dUn,wrap_ok,Int.natCast_add,Int.natCast_one,↓WX,simprocAttr]
   intro j id' y' hj h1 h2
   by_cases ej:j=i
   ·subst ej
    rw[hid]at h1
    cases h1
    rw[e3]at h2
    cases h2
    exact⟨_,hpl2⟩
   ·exact hpd j id' y' (by omega) h1 h2
end
set_option linter.unusedSimpArgs false

theorem set_modify {l:List Int} {b:Nat} {v n:Int} (h:l[b]? =some v):(l.map encZ).set b [.int .i64 (v+n)]=(l.modify b (· +n)).map encZ:=by
 refine List.ext_getElem? fun j=>?_
 rw[List.getElem?_set,List.getElem?_map,List.getElem?_map,modify_at,List.length_map]
 by_cases e:b=j
 ·subst e
  rw[h]
  have:=lt_of_get h
  simp[this]
 ·rw[if_neg e]
  cases l[j]? <;> simp[e]
section
variable {S : List Ob} {lab : Lab} {o k m n : Nat} {s : Stk} {ps : List (D × D)} {ids : List Lid} {id : Lid}
theorem StkAt.put {i p a b r q:Nat} {x:Leg} {cl:ByteArray} {w:Int} {row:List Int} {es:List (List D)} (h:StkAt S lab o kL (.loc k 0 0) s k m ps) (hf:FreshL S lab) (hnd:(s.legs.map (·.1)).Nodup) (hi:s.legs[i]? =some (id,x)) (hp:ps[i]? =some (.agg id.enc,.loc p 0 0)) (hx:LegAt S lab o i p x)
  (hpl:placeF cl 0 x.cfg.cabs=some (a,b)) (ha:x.sold[a]? =some row) (hq:S[q]? =some (.row 1 es)) (hpq:S[p]? =some (.row 4 [legCells x (.os q 0 x.sold.length false)])) (hr:es[a]? =some [.os r 0 row.length false]) (hlr:lab r=[o,3,i,a]):
  StkAt (S.set r (.row 1 ((row.modify b (· +w)).map encZ))) lab o kL (.loc k 0 0) { s with legs:=updL s.legs id (addL cl w) } k m ps∧Step o S lab (S.set r (.row 1 ((row.modify b (· +w)).map encZ))) lab:=by
 have hst:Step o S lab (S.set r (.row 1 ((row.modify b (· +w)).map encZ))) lab:=Step.set hf _ (by rw[hlr];rfl)
 have hadd:addL cl w x={ x with sold:=addAt x.sold a b w }:=by unfold addL;rw[hpl]
 refine⟨h.upd hnd hi hp (fun z ob hz n1 n2 n3=>?_) (fun _ _=>rfl) ?_,hst⟩
 ·rw[List.getElem?_set_ne]
  ·exact hz
  ·rintro rfl;exact n3 a hlr
 ·rw[hadd]
  obtain⟨h1,d,h2,h3⟩:=hx
  rw[hpq]at h2
  have hd:d=.os q 0 x.sold.length false:=by simpa [legCells] using h2.symm
  subst hd
  have hlen:(addAt x.sold a b w).length=x.sold.length:=by rw[addAt,List.length_modify]
  refine⟨h1,_,?_,h3.add ha hlr ⟨q,es,rfl,hq,hr⟩⟩
  rw[List.getElem?_set_ne]
  ·exact hpq
  ·rintro rfl;rw[hlr]at h1;simp at h1
theorem Sell1_c {i p c1 c2:Nat} {x:Leg} {l:List Cfg} (hn:180≤n) (hx:LegAt S lab o i p x) (ok:LegOk l 9999 x) {cl:ByteArray} {w:Int} (h1:S[c1]? =some (.row 1 [[.str cl]])) (h2:S[c2]? =some (.row 1 [[.int .i64 w]])):
  callD E (dcall E n) false S 58 [.loc p 0 0,.loc c1 0 0,.loc c2 0 0]=some (.bool (decide (leftF x cl<w)),S):=by
 obtain⟨q,rfl⟩:∃q,n=q+1:=⟨n-1,by omega⟩
 have cl':=left_c (n:=q) (by omega) hx ok cl
 have:WO (dcall E (q+1) 58 [.loc p 0 0,.loc c1 0 0,.loc c2 0 0] S) fun r T=>r=.bool (decide (leftF x cl<w))∧T=S:=by
  have g1:=h1
  have g2:=h2
  clear h1 h2
  refine wo_dcall Tryz.func58 rfl (by decide) rfl 10 rfl (fun a hal ha=>?_)
  have h0:a[0]? =some (.loc p 0 0):=ha 0 (by simp)
  have h1:a[1]? =some (.loc c1 0 0):=ha 1 (by simp)
  have h2:a[2]? =some (.loc c2 0 0):=ha 2 (by simp)
  clear ha
  simp(maxSteps:=1000000)(disch:=omega)only[push_cast,hal,h0,h1,h2,g1,g2,cl',Tryz.f58,↓WX,simprocAttr]
 obtain⟨_,U,ho,rfl,rfl⟩:=this
 exact (callD_own rfl rfl).trans ho
def lessB (lab:Lab) (s:Stk) (cl:ByteArray) (w:Int) (p:Nat):Bool:=match lab p with
 | [_,_,i]=>match s.legs[i]? with
  |some (_,x)=>decide (leftF x cl<w)
  |none=>false
 |_=>false
theorem find_c (hn:190≤n) (h:StkAt S lab o kL (.loc k 0 0) s k m ps) (ok:StkOk 9999 s) (hl:ids.length≤20) (hids:∀id∈ids,id.Ok) {di:D} (hdi:FLs 4 Lid.enc di ids) (cl:ByteArray) (w:Int) (sale:Bool):
  ∃d T,callD E (dcall E n) false S 56 [.loc k 0 0,di,.str cl,.int .i64 w,.bool sale]=some (.tup [d,.int .i64 (s.named ids cl w sale)],T)∧ExtS S T∧
   (s.named ids cl w sale=0→∃(q:Nat) (pl:List Nat),d=.os q 0 pl.length false∧S.length≤q∧T[q]? =some (.row 1 (pl.map encP))∧pl.length=ids.length∧∀(j:Nat) (id:Lid) (p:Nat),ids[j]? =some id→pl[j]? =some p→PtrAt T lab o s ps cl id p):=by
 obtain⟨q,rfl⟩:∃q,n=q+1:=⟨n-1,by omega⟩
 obtain⟨_,T,ho,d,rfl,h1,h2⟩:=find_d (n:=q) (by omega) h ok hl hids hdi cl w sale
 exact⟨d,T,(callD_own rfl rfl).trans ho,h1,h2⟩
set_option maxHeartbeats 8000000 in
set_option maxRecDepth 100000 in
theorem Sell_d (hn:200≤n) (h:SAt S lab o k s) (ok:StkOk 9999 s) (hl:ids.length≤20) (hids:∀id∈ids,id.Ok) {di:D} (hdi:FLs 4 Lid.enc di ids) (cl:ByteArray) (w:Int):
  WO (dcall E (n+1) 23 [.loc k 0 0,di,.str cl,.int .i64 w] S) fun r T=>r=.int .i64 (s.sell ids cl w).1∧∃lab',SAt T lab' o k (s.sell ids cl w).2∧Step o S lab T lab':=by
 obtain⟨hf,m,ps,h⟩:=h
 have hx0:=(h.push [.row 1 [[.str cl]]]).push [.row 1 [[.int .i64 w]]]
 obtain⟨d,T,cf,hxT,hfd⟩:=find_c (n:=n) (by omega) hx0 ok hl hids hdi cl w true
 have hfT:FreshL T lab:=fun z hz=>hf z (by
  have:=hxT.len
  rw[List.length_append,List.length_append]at this
  omega)
 have hST:Step o S lab T lab:=by
  obtain⟨J,rfl⟩:=exts_split hxT
  exact ((Step.push hf _).trans (Step.push (hf.push _) _)).trans (Step.push ((hf.push _).push _) _)
 have hT:=hx0.keep (KeepO.ext hxT)
 have b1:=hxT S.length _ get_end0
 have b2:=hxT (S.length+1) _ get_end1
 refine wo_dcall Tryz.func23 rfl (by decide) rfl 60 rfl (fun a hal ha=>?_)
 have h0:a[0]? =some (.loc k 0 0):=ha 0 (by simp)
 have h1:a[1]? =some (di):=ha 1 (by simp)
 have h2:a[2]? =some (.str cl):=ha 2 (by simp)
 have h3:a[3]? =some (.int .i64 w):=ha 3 (by simp)
 clear ha
 unfold Stk.sell
 by_cases e0:s.named ids cl w true=0
 case neg=>
  rw[if_pos e0]
  simp(maxSteps:=1000000)(disch:=omega)only[push_cast,not_false_eq_true,hal,h0,h1,h2,h3,get_end,get_end0,cf,e0,Tryz.f23,↓WX,simprocAttr]
  exact⟨lab,⟨hfT,m,ps,hT⟩,hST⟩
 rw[if_neg (by simpa using e0)]
 rw[e0]at cf
 obtain⟨q,pl,rfl,hqS,hq,hpl,hptr⟩:=hfd e0
 obtain⟨hw1,hne,hnd,hall⟩:=named_inv e0
 have hidx:∀p∈pl,∃id∈ids,PtrAt T lab o s ps cl id p:=fun p hp=>by
  obtain⟨j,hj⟩:=List.mem_iff_getElem?.1 hp
  have hjl:=lt_of_get hj
  have hji:ids[j]? =some (ids[j]'(by omega)):=List.getElem?_eq_getElem (by omega)
  exact⟨_,mem_at hji,hptr j _ p hji hj⟩
 have hidy:∀id∈ids,∃p∈pl,PtrAt T lab o s ps cl id p:=fun id hid=>by
  obtain⟨j,hj⟩:=List.mem_iff_getElem?.1 hid
  have hjl:=lt_of_get hj
  have hjp:pl[j]? =some (pl[j]'(by omega)):=List.getElem?_eq_getElem (by omega)
  exact⟨_,mem_at hjp,hptr j id _ hj hjp⟩
 have hpr:∀id p,PtrAt T lab o s ps cl id p→∃i x,LegAt T lab o i p x∧s.get id=some x∧lessB lab s cl w p=decide (leftF x cl<w):=fun id p hp=>by
  obtain⟨i,x,q',e1,-,e3,e4,-⟩:=hp.x
  refine⟨i,x,e4,e3,?_⟩
  unfold lessB
  rw[e4.1]
  dsimp only
  rw[e1]
 have hc:=hasP_c (n:=n) (g:=58) (xs:=[]) (ys:=[.loc S.length 0 0,.loc (S.length+1) 0 0]) (pr:=lessB lab s cl w) (l:=pl) (S:=T) (by omega) (by omega) hq (fun p hp=>by
  obtain⟨id,hid,hp⟩:=hidx p hp
  obtain⟨i,x,hx,hg,e⟩:=hpr id p hp
  rw[e]
  exact Sell1_c (by omega) hx (ok.get hg) b1 b2)
 have hany:pl.any (lessB lab s cl w)=ids.any (fun id=>decide (((s.get id).map (leftF · cl)).getD 0<w)):=by
  rw[Bool.eq_iff_iff,List.any_eq_true,List.any_eq_true]
  constructor
  ·rintro⟨p,hp,hb⟩
   obtain⟨id,hid,hp⟩:=hidx p hp
   obtain⟨i,x,hx,hg,e⟩:=hpr id p hp
   rw[e]at hb
   exact⟨id,hid,by rw[hg];exact hb⟩
  ·rintro⟨id,hid,hb⟩
   obtain⟨p,hpm,hp⟩:=hidy id hid
   obtain⟨i,x,hx,hg,e⟩:=hpr id p hp
   rw[hg]at hb
   exact⟨p,hpm,by rw[e];exact hb⟩
 rw[hany]at hc
 have hL:(S++[Ob.row 1 [[D.str cl]]]).length=S.length+1:=by simp
 cases hb:ids.any (fun id=>decide (((s.get id).map (leftF · cl)).getD 0<w))
 case true=>
  rw[hb]at hc
  rw[if_pos rfl]
  simp(maxSteps:=1000000)(disch:=omega)only[push_cast,not_true_eq_false,hal,h0,h1,h2,h3,get_end0,get_end1,cf,hc,hL,Tryz.f23,↓WX,simprocAttr]
  exact⟨lab,⟨hfT,m,ps,hT⟩,hST⟩
 rw[hb]at hc
 rw[if_neg (by simp)]
 have hwle:w≤1998:=by
  obtain⟨id,hid⟩:∃id,id∈ids:=by
   cases ids with
   |nil=>exact absurd rfl hne
   |cons a l=>exact⟨a,by simp⟩
  obtain⟨x,q',hx,-⟩:=hall id hid
  rw[List.any_eq_false]at hb
  have:=hb id hid
  rw[hx]at this
  have h2:=leftF_le (ok.get hx) cl
  simp at this
  omega
 have hqT:lab q=[]:=hf q (by rw[List.length_append,List.length_append]at hqS;omega)
 have hfree:∀ {U:List Ob} {z:Nat} {ob:Ob},Step o T lab U lab→T[z]? =some ob→lab z=[]→U[z]? =some ob:=fun hs hz hl=>(hs.free hz hl).1
 simp(maxSteps:=1000000)(disch:=omega)only[push_cast,not_true_eq_false,hal,h0,h1,h2,h3,get_end0,get_end1,cf,hc,hL,↓WX,simprocAttr]
 refine wl_loop (fun i a U=>a.length=60∧a[6]? =some (.loc S.length 0 0)∧a[7]? =some (.loc (S.length+1) 0 0)∧a[30]? =some (.os q 0 pl.length false)∧a[31]? =some (.int .i64 pl.length)∧a[32]? =some (.int .i64 i)∧Step o T lab U lab∧∃legs,StkAt U lab o kL (.loc k 0 0) { s with legs:=legs } k m ps∧legs.map (·.1)=s.legs.map (·.1)∧addIds cl w ids s.legs=addIds cl w (ids.drop i) legs∧∀(j:Nat) (id:Lid) (li:Nat) (x:Leg),i≤j→ids[j]? =some id→s.legs[li]? =some (id,x)→legs[li]? =some (id,x)) pl.length ?_ (by omega) ?_
 ·simp(maxSteps:=1000000)(disch:=omega)only[push_cast,hal,Int.natCast_zero,List.drop_zero,simprocAttr]
  exact⟨Step.refl hfT,s.legs,hT,rfl,rfl,fun j id li x _ _ h=>h⟩
 clear hal h0 h1 h2 h3 a
 rintro i a U hi ⟨hal,h6,h7,h30,h31,h32,hsU,legs,hU,hfst,hadd,hold⟩
 rcases Nat.lt_or_eq_of_le hi with hlt |rfl
 case inr=>
  have hfin:addIds cl w ids s.legs=legs:=by
   rw[hadd,List.drop_eq_nil_of_le (by omega)];rfl
  rw[hfin]
  simp(maxSteps:=1000000)(disch:=omega)only[push_cast,hal,h31,h32,Nat.lt_irrefl,Tryz.f23,↓WX,simprocAttr]
  exact⟨lab,⟨hsU.fresh,m,ps,hU⟩,hST.trans hsU⟩
 obtain⟨p,hp⟩:∃p,pl[i]? =some p:=⟨pl[i],by simp⟩
 obtain⟨id,hid⟩:∃id,ids[i]? =some id:=⟨ids[i]'(by omega),by simp⟩
 obtain⟨li,x,⟨a',b'⟩,e1,e2,e3,e4,e5⟩:=(hptr i id p hid hp).x
 have hli:=hold i id li x (Nat.le_refl _) hid e1
 obtain⟨p',g1,g2⟩:=hU.leg li id x hli
 rw[e2]at g1
 have hpp:p=p':=by simpa using g1
 subst hpp
 obtain⟨q2,es,hp4,hq2,-,hr⟩:=g2.parts
 have hok:=ok.get e3
 obtain⟨y,row,z,v,c1,c2,c3,c4,c5,c6,c7⟩:=hok.at_ e5
 obtain⟨r,hr1,hr2,hr3⟩:=hr a' row c2
 have hvb:=hok.rng (by omega) c2 v (mem_at c5)
 have ha':a'<x.sold.length:=lt_of_get c2
 have hb':b'<row.length:=lt_of_get c5
 have hsm:=set_modify (n:=w) c5
 have cp:=Place_c (n:=n) (cl:=cl) (by omega) hok.cfg.sm
 rw[e5]at cp
 simp only[Cfg.enc,placeD]at cp
 have hqU:=hfree hsU hq hqT
 have b1U:=hfree hsU b1 (hf _ (by omega))
 have b2U:=hfree hsU b2 (hf _ (by omega))
 have hndL:(legs.map (·.1)).Nodup:=by rw[hfst];exact ok.ids
 obtain⟨n1,n2⟩:=hU.put (w:=w) hsU.fresh hndL hli e2 g2 e5 c2 hq2 hp4 hr1 hr2
 have hlr:=lt_of_get hr3
 simp(maxSteps:=1000000)(disch:=omega)only[push_cast,hal,h6,h7,h30,h31,h32,hlt,hqU,hp,hp4,hq2,hr1,hr3,c5,b1U,b2U,cp,ha',hb',hsm,wrap_ok,Int.natCast_add,Int.natCast_one,↓WX,simprocAttr]
 refine⟨hsU.trans n2,_,n1,by rw[updL_ids,hfst],by rw[hadd,drop_at hid,addIds],fun j id' li' x' hj h1 h2=>?_⟩
 have h3:=hold j id' li' x' (by omega) h1 h2
 have hne':id'≠id:=fun e=>by
  subst e
  exact dup_of (by omega) hid h1 hnd
 unfold updL
 rw[List.getElem?_map,h3]
 simp[hne']
end
set_option linter.unusedSimpArgs false

structure Tab (b:Cfg) (M:Int) (t:List (List Int)):Prop where
 len:t.length=b.cabs.length
 row:∀(i:Nat) (y:Cab) (r:List Int),b.cabs[i]? =some y→t[i]? =some r→r.length=y.cls.length
 bd:∀(i:Nat) (r:List Int),t[i]? =some r→∀v∈r,0≤v∧v≤M
theorem Tab.empty {b:Cfg}:Tab b 0 (emptyF b):=by
 refine⟨by simp[emptyF],fun i y r h1 h2=>?_,fun i r h v hv=>?_⟩
 ·unfold emptyF at h2
  rw[List.getElem?_map,h1]at h2
  cases h2
  simp
 ·unfold emptyF at h
  rw[List.getElem?_map]at h
  obtain⟨y,-,rfl⟩:=Option.map_eq_some_iff.1 h
  have:=(List.mem_replicate.1 hv).2
  omega
theorem Tab.mono {b:Cfg} {M N:Int} {t:List (List Int)} (h:Tab b M t) (hM:M≤N):Tab b N t:=
 ⟨h.len,h.row,fun i r hr v hv=>by have:=h.bd i r hr v hv;omega⟩
theorem Tab.add {b:Cfg} {M w:Int} {t:List (List Int)} {i k:Nat} (h:Tab b M t) (h0:0≤w) (hw:w≤9999):Tab b (M+9999) (addAt t i k w):=by
 refine⟨by rw[addAt,List.length_modify];exact h.len,fun j y r h1 h2=>?_,fun j r hr v hv=>?_⟩
 ·unfold addAt at h2
  rw[modify_at]at h2
  obtain⟨q,hq,rfl⟩:=Option.map_eq_some_iff.1 h2
  have:=h.row j y q h1 hq
  split
  ·rw[List.length_modify];exact this
  ·exact this
 ·unfold addAt at hr
  rw[modify_at]at hr
  obtain⟨q,hq,rfl⟩:=Option.map_eq_some_iff.1 hr
  have hb:=h.bd j q hq
  split at hv
  ·obtain⟨m,hm⟩:=List.mem_iff_getElem?.1 hv
   rw[modify_at]at hm
   obtain⟨u,hu,rfl⟩:=Option.map_eq_some_iff.1 hm
   have:=hb u (mem_at hu)
   split <;> omega
  ·have:=hb v hv
   omega
theorem TabAt.parts {S:List Ob} {lab:Lab} {o i q n:Nat} {t:List (List Int)} (h:TabAt S lab o i (.os q 0 n false) t):∃es,S[q]? =some (.row 1 es)∧lab q=[o,2,i]∧∀(j:Nat) (row:List Int),t[j]? =some row→∃r,es[j]? =some [.os r 0 row.length false]∧lab r=[o,3,i,j]∧S[r]? =some (.row 1 (row.map encZ)):=by
 obtain⟨q',r,es,e,h2,h3,h4,h5⟩:=h
 cases e
 exact⟨es,h3,h2,fun j row hj=>⟨r j,h5 j row hj⟩⟩
theorem TabAt.push {S:List Ob} {lab:Lab} {o i:Nat} {d:D} {t:List (List Int)} (h:TabAt S lab o i d t) (J:List Ob):TabAt (S++J) lab o i d t:=h.keep fun _ _ _ hx _=>⟨get_old hx,rfl⟩
section
variable {S : List Ob} {lab : Lab} {o k m n : Nat} {s : Stk} {ps : List (D × D)} {ids : List Lid} {id : Lid}
end
end Go.Proofs.YtkemehicndccmaaGreatDoor.Dm
