/-
  The reference's inventory in the store.
-/
import Derived.Test.YtkemehicndccmaaGreatDoorCoA
import Derived.Test.YtkemehicndccmaaGreatDoorSkR
set_option linter.unusedSimpArgs false
set_option linter.unusedVariables false
namespace Go.Proofs.YtkemehicndccmaaGreatDoor.Dm
open Go Gw
set_option linter.unusedSimpArgs false
set_option linter.unusedSimpArgs false

abbrev RRow:=Lid×Leg×D
abbrev rowE (r:RRow):List D:=[.str r.1.c,.int .i64 r.1.n,.int .i64 r.1.d,.str r.1.f,.str r.2.1.cfg.equip,.bool r.2.1.closed,r.2.2]
structure RefAt (S:List Ob) (lab:Lab) (o:Nat) (s:Stk) (k:Nat) (rd:D) (rows:List RRow):Prop where
 labk:lab k=[o,0]
 row:S[k]? =some (.row 3 [[.bool true,.sl 2 (s.l.map Cfg.enc) s.x,rd]])
 gl:GL 7 rowE S rd rows
 own:∀r n,rd=.os r 0 n false→lab r=[o,4]
 legs:rows.map (fun r=>(r.1,r.2.1))=s.legs
 tab:∀(i:Nat) (id:Lid) (x:Leg) (d:D),rows[i]? =some (id,x,d)→TabAt S lab o i d x.sold
theorem RefAt.keep {S T:List Ob} {lab lab':Lab} {o:Nat} {s:Stk} {k:Nat} {rd:D} {rows:List RRow} (h:RefAt S lab o s k rd rows) (g:KeepO o S lab T lab'):RefAt T lab' o s k rd rows where
 labk:=(g k _ _ h.row h.labk).2
 row:=(g k _ _ h.row h.labk).1
 gl:=by
  rcases h.gl with h1 | ⟨r,h1,h2⟩
  ·exact .inl h1
  ·exact .inr ⟨r,h1,(g r _ _ h2 (h.own _ _ h1)).1⟩
 own r n e:=by
  rcases h.gl with ⟨h1,-⟩ | ⟨r',h1,h2⟩
  ·rw[h1]at e;cases e
  ·have hr:r'=r:=by rw[h1]at e;injection e
   subst hr
   exact (g r' _ _ h2 (h.own _ _ h1)).2
 legs:=h.legs
 tab i id x d hx:=(h.tab i id x d hx).keep fun y ob tl hy hl=>by
  rcases hl with hl | ⟨j,hl⟩
  ·obtain⟨g1,g2⟩:=g y _ _ hy hl
   exact⟨g1,by rw[g2,hl]⟩
  ·obtain⟨g1,g2⟩:=g y _ _ hy hl
   exact⟨g1,by rw[g2,hl]⟩
theorem RefAt.push {S:List Ob} {lab:Lab} {o:Nat} {s:Stk} {k:Nat} {rd:D} {rows:List RRow} (h:RefAt S lab o s k rd rows) (J:List Ob):RefAt (S++J) lab o s k rd rows:=h.keep KeepO.push
def atF (id:Lid):Nat→List RRow→Int
 |_,[]=> -1
 |i,r::rs=>if r.1=id then i else atF id (i+1) rs
theorem atF_none {id:Lid}:∀ {rows:List RRow} {i:Nat},getL (rows.map fun r=>(r.1,r.2.1)) id=none→atF id i rows= -1
 | [],_,_=>rfl
 |r::rs,i,h=>by
  rw[getL,List.map_cons,List.find?_cons]at h
  by_cases e:r.1=id
  ·simp[e]at h
  ·rw[atF,if_neg e]
   refine atF_none ?_
   simpa [getL,e] using h
theorem atF_some {id:Lid} {x:Leg}:∀ {rows:List RRow} {i:Nat},getL (rows.map fun r=>(r.1,r.2.1)) id=some x→∃(j:Nat) (d:D),atF id i rows=(i+j:Nat)∧rows[j]? =some (id,x,d)
 | [],_,h=>by simp[getL]at h
 |r::rs,i,h=>by
  rw[getL,List.map_cons,List.find?_cons]at h
  by_cases e:r.1=id
  ·rw[decide_eq_true e]at h
   obtain⟨a,b,c⟩:=r
   cases h
   dsimp only at e
   subst e
   exact⟨0,c,by rw[atF,if_pos rfl];simp,rfl⟩
  ·rw[decide_eq_false e]at h
   obtain⟨j,d,h1,h2⟩:=atF_some (i:=i+1) (rows:=rs) (id:=id) (x:=x) h
   exact⟨j+1,d,by rw[atF,if_neg e,h1];congr 1;omega,h2⟩
theorem eqp_ref {k i o:Nat}:dEq Tryz.prog 10000 43 (.loc k i o) .nilp=some false:=eqp_loc Tryz.underlying43
section
variable {S : List Ob} {lab : Lab} {o k n : Nat} {s : Stk} {rd : D} {rows : List RRow} {id : Lid}
theorem rmade_c (hn:1≤n) (h:RefAt S lab o s k rd rows) (st:Bool):callD E (dcall E n) st S 52 [.loc k 0 0]=some (.bool true,S):=by
 obtain⟨q,rfl⟩:∃q,n=q+1:=⟨n-1,by omega⟩
 have hk:=h.row
 have:WO (dcall E (q+1) 52 [.loc k 0 0] S) fun d T=>d=.bool true∧T=S:=by
  refine wo_dcall Tryz.func52 rfl (by decide) rfl 11 rfl (fun a hal ha=>?_)
  have h0:a[0]? =some (.loc k 0 0):=ha 0 (by simp)
  clear ha
  simp(maxSteps:=1000000)(disch:=omega)only[push_cast,hal,h0,hk,eqp_ref,Tryz.f52,↓WX,simprocAttr]
 obtain⟨d,T,ho,rfl,rfl⟩:=this
 exact callD_obs rfl rfl ho rfl
theorem atF_drop {rows:List RRow} {i:Nat} {r:RRow} (h:rows[i]? =some r):atF id i (rows.drop i)=if r.1=id then (i:Int) else atF id (i+1) (rows.drop (i+1)):=by rw[drop_at h,atF]
set_option maxHeartbeats 4000000 in
set_option maxRecDepth 100000 in
theorem rat_c (hn:120≤n) (h:RefAt S lab o s k rd rows) (hl:rows.length≤100) (st:Bool):callD E (dcall E n) st S 53 [.loc k 0 0,.agg id.enc]=some (.int .i64 (atF id 0 rows),S):=by
 obtain⟨q,rfl⟩:∃q,n=q+1:=⟨n-1,by omega⟩
 have hT:=h.push [.row 4 [id.enc]]
 have cm:=rmade_c (n:=q) (by omega) hT
 have hk:=hT.row
 have:WO (dcall E (q+1) 53 [.loc k 0 0,.agg id.enc] S) fun d T=>d=.int .i64 (atF id 0 rows)∧ExtS S T:=by
  refine wo_dcall Tryz.func53 rfl (by decide) rfl 30 rfl (fun a hal ha=>?_)
  have h0:a[0]? =some (.loc k 0 0):=ha 0 (by simp)
  have h1:a[1]? =some (.agg id.enc):=ha 1 (by simp)
  clear ha
  simp only[Lid.enc]at h1 cm hk hT
  rcases hT.gl with ⟨rfl,rfl⟩ | ⟨r,rfl,hr⟩
  ·simp(maxSteps:=1000000)(disch:=omega)only[push_cast,h1,↓WX,simprocAttr]
   refine wl_loop (fun i a T=>i=0∧T=S++[Ob.row 4 [[.str id.c,.int .i64 id.n,.int .i64 id.d,.str id.f]]]∧a.length=30∧a[0]? =some (.loc k 0 0)∧a[5]? =some (.int .i64 0)) 0 ?_ (by omega) ?_
   ·simp(maxSteps:=1000000)(disch:=omega)only[push_cast,hal,h0,simprocAttr]
   clear hal h0 h1 a
   rintro i a T _ ⟨rfl,rfl,hal,h0,h5⟩
   simp(maxSteps:=1000000)(disch:=omega)only[push_cast,hal,h0,h5,cm,hk,Int.lt_irrefl,atF,Tryz.f53,↓WX,simprocAttr]
   exact ExtS.app
  simp(maxSteps:=1000000)(disch:=omega)only[push_cast,h1,↓WX,simprocAttr]
  refine wl_loop (fun i a T=>T=S++[Ob.row 4 [[.str id.c,.int .i64 id.n,.int .i64 id.d,.str id.f]]]∧a.length=30∧a[0]? =some (.loc k 0 0)∧a[3]? =some (.loc S.length 0 0)∧a[5]? =some (.int .i64 i)∧atF id 0 rows=atF id i (rows.drop i)) rows.length ?_ (by omega) ?_
  ·simp(maxSteps:=1000000)(disch:=omega)only[push_cast,hal,h0,Int.natCast_zero,List.drop_zero,simprocAttr]
  clear hal h0 h1 a
  rintro i a T hi ⟨rfl,hal,h0,h3,h5,hat⟩
  rcases Nat.lt_or_eq_of_le hi with hlt |rfl
  case inr=>
   rw[hat,List.drop_length]
   simp(maxSteps:=1000000)(disch:=omega)only[push_cast,hal,h0,h5,cm,hk,Int.lt_irrefl,atF,Tryz.f53,↓WX,simprocAttr]
   exact ExtS.app
  have hlc:(i:Int)<rows.length:=by omega
  obtain⟨w,hw⟩:∃w,rows[i]? =some w:=⟨rows[i],by simp⟩
  rw[atF_drop hw]at hat
  have he:=eq_lid w.1 id
  simp only[Lid.enc]at he
  by_cases e:w.1=id
  ·rw[if_pos e]at hat
   rw[decide_eq_true e]at he
   rw[hat]
   simp(maxSteps:=1000000)(disch:=omega)only[push_cast,hal,h0,h3,h5,cm,hk,hr,hlc,hw,he,get_end,Tryz.f53,↓WX,simprocAttr]
   exact ExtS.app
  ·rw[if_neg e]at hat
   rw[decide_eq_false e]at he
   simp(maxSteps:=1000000)(disch:=omega)only[push_cast,hal,h0,h3,h5,cm,hk,hr,hlt,hlc,hw,he,get_end,wrap_ok,Int.natCast_add,Int.natCast_one,↓WX,simprocAttr]
   exact hat
 obtain⟨_,U,ho,rfl,hx⟩:=this
 exact callD_obsS rfl rfl ho hx rfl
theorem RefAt.os {S:List Ob} (h:RefAt S lab o s k rd rows) {i:Nat} {w:RRow} (hw:rows[i]? =some w):∃r,rd=.os r 0 rows.length false∧lab r=[o,4]∧S[r]? =some (.row 7 (rows.map rowE)):=by
 rcases h.gl with ⟨-,rfl⟩ | ⟨r,h1,h2⟩
 ·simp at hw
 ·exact⟨r,h1,h.own _ _ h1,h2⟩
set_option maxHeartbeats 4000000 in
set_option maxRecDepth 100000 in
theorem rconfig_c (hn:130≤n) (h:RefAt S lab o s k rd rows) {i:Nat} {x:Leg} {d:D} (hw:rows[i]? =some (id,x,d)) (hf:findF s.l x.cfg.equip=some x.cfg) (hl:s.l.length≤100) (st:Bool):
  callD E (dcall E n) st S 64 [.loc k 0 0,.int .i64 i]=some (.agg x.cfg.enc,S):=by
 obtain⟨q,rfl⟩:∃q,n=q+1:=⟨n-1,by omega⟩
 obtain⟨r,rfl,-,hr⟩:=h.os hw
 have hk:=h.row
 have cf:=rFind_c (n:=q) (l:=s.l) (x:=s.x) (e:=x.cfg.equip) (by omega) hl
 rw[hf]at cf
 have hlt:=lt_of_get hw
 have:WO (dcall E (q+1) 64 [.loc k 0 0,.int .i64 i] S) fun r T=>r=.agg x.cfg.enc∧ExtS S T:=by
  refine wo_dcall Tryz.func64 rfl (by decide) rfl 24 rfl (fun a hal ha=>?_)
  have h0:a[0]? =some (.loc k 0 0):=ha 0 (by simp)
  have h1:a[1]? =some (.int .i64 i):=ha 1 (by simp)
  clear ha
  simp only[foundC,Cfg.enc]at cf
  have hk':=fun (ob:Ob)=>get_old (J:=[ob]) hk
  have hr':=fun (ob:Ob)=>get_old (J:=[ob]) hr
  simp(maxSteps:=1000000)(disch:=omega)only[push_cast,hal,h0,h1,hk',hr',hlt,hw,cf,set_end,get_end,get_end0,Cfg.enc,Tryz.f64,↓WX,simprocAttr]
  rw[if_pos (by simp)]
  exact⟨rfl,(ExtS.trans ExtS.app ExtS.app).set (Nat.le_refl _) _⟩
 obtain⟨_,U,ho,rfl,hx⟩:=this
 exact callD_obsS rfl rfl ho hx (by simp[D.pure,Cfg_pure])
theorem at_rows (h:RefAt S lab o s k rd rows) (id:Lid):(s.get id=none∧atF id 0 rows= -1)∨∃(i:Nat) (x:Leg) (d:D),s.get id=some x∧atF id 0 rows=i∧rows[i]? =some (id,x,d):=by
 have hl:=h.legs
 rcases e:s.get id with _ |x
 ·refine .inl ⟨rfl,atF_none ?_⟩
  rw[hl];exact e
 ·obtain⟨j,d,h1,h2⟩:=atF_some (i:=0) (rows:=rows) (id:=id) (x:=x) (by rw[hl];exact e)
  exact .inr ⟨j,x,d,rfl,by rw[h1];congr 1;omega,h2⟩
set_option maxHeartbeats 4000000 in
set_option maxRecDepth 100000 in
theorem rEquip_c (hn:130≤n) (h:RefAt S lab o s k rd rows) (hl:rows.length≤100) (st:Bool):
  callD E (dcall E n) st S 114 [.loc k 0 0,.agg id.enc]=some (equipD (s.equip id),S):=by
 obtain⟨q,rfl⟩:∃q,n=q+1:=⟨n-1,by omega⟩
 have hT:=h.push [.row 4 [id.enc]]
 have ca:=rat_c (n:=q) (id:=id) (by omega) hT hl
 have hk:=hT.row
 have:WO (dcall E (q+1) 114 [.loc k 0 0,.agg id.enc] S) fun r T=>r=equipD (s.equip id)∧ExtS S T:=by
  refine wo_dcall Tryz.func114 rfl (by decide) rfl 20 rfl (fun a hal ha=>?_)
  have h0:a[0]? =some (.loc k 0 0):=ha 0 (by simp)
  have h1:a[1]? =some (.agg id.enc):=ha 1 (by simp)
  clear ha
  simp only[Lid.enc]at h1 ca hk hT
  rcases at_rows h id with ⟨g1,g2⟩ | ⟨i,x,d,g1,g2,g3⟩
  ·have e:s.equip id=none:=by unfold Stk.equip;rw[g1];rfl
   rw[e]
   rw[g2]at ca
   simp(maxSteps:=1000000)(disch:=omega)only[push_cast,hal,h0,h1,get_end,ca,equipD,Tryz.f114,↓WX,simprocAttr]
   exact ExtS.app
  ·have e:s.equip id=some x.cfg.equip:=by unfold Stk.equip;rw[g1];rfl
   rw[e]
   rw[g2]at ca
   obtain⟨r,rfl,-,hr⟩:=hT.os g3
   have hlt:=lt_of_get g3
   have hnn:¬(i:Int)<0:=by omega
   simp(maxSteps:=1000000)(disch:=omega)only[push_cast,hal,h0,h1,get_end,ca,hnn,hk,hr,hlt,g3,equipD,Tryz.f114,↓WX,simprocAttr]
   exact ExtS.app
 obtain⟨_,U,ho,rfl,hx⟩:=this
 exact callD_obsS rfl rfl ho hx (by cases s.equip id <;> rfl)
set_option maxHeartbeats 8000000 in
set_option maxRecDepth 100000 in
theorem rLeft_c (hn:180≤n) (h:RefAt S lab o s k rd rows) (ok:StkOk 9999 s) (hl:rows.length≤100) (hls:s.l.length≤100) (cl:ByteArray) (st:Bool):
  callD E (dcall E n) st S 62 [.loc k 0 0,.agg id.enc,.str cl]=some (.int .i64 (s.left id cl),S):=by
 obtain⟨q,rfl⟩:∃q,n=q+1:=⟨n-1,by omega⟩
 have hT:=h.push [.row 4 [id.enc]]
 have ca:=rat_c (n:=q) (id:=id) (by omega) hT hl
 have hk:=hT.row
 have:WO (dcall E (q+1) 62 [.loc k 0 0,.agg id.enc,.str cl] S) fun r T=>r=.int .i64 (s.left id cl)∧ExtS S T:=by
  refine wo_dcall Tryz.func62 rfl (by decide) rfl 65 rfl (fun a hal ha=>?_)
  have h0:a[0]? =some (.loc k 0 0):=ha 0 (by simp)
  have h1:a[1]? =some (.agg id.enc):=ha 1 (by simp)
  have h2:a[2]? =some (.str cl):=ha 2 (by simp)
  clear ha
  simp only[Lid.enc]at h1 ca hk hT
  unfold Stk.left
  rcases at_rows h id with ⟨g1,g2⟩ | ⟨i,x,d,g1,g2,g3⟩
  ·rw[g1]
   rw[g2]at ca
   simp(maxSteps:=1000000)(disch:=omega)only[push_cast,hal,h0,h1,get_end,ca,Tryz.f62,↓WX,simprocAttr]
   exact ExtS.app
  rw[g1]
  rw[g2]at ca
  obtain⟨r,rfl,-,hr⟩:=hT.os g3
  have hlt:=lt_of_get g3
  have hnn:¬(i:Int)<0:=by omega
  have hok:=ok.get g1
  dsimp only
  cases hcl:x.closed
  case true=>
   rw[if_pos rfl]
   simp(maxSteps:=1000000)(disch:=omega)only[push_cast,hal,h0,h1,get_end,ca,hnn,hk,hr,hlt,g3,hcl,Tryz.f62,↓WX,simprocAttr]
   exact ExtS.app
  rw[if_neg (by simp)]
  have cf:=rconfig_c (n:=q) (by omega) hT g3 hok.find hls
  have cp:=rPlace_c (n:=q) (c:=x.cfg) (cl:=cl) (by omega) hok.cfg.sm
  simp only[Cfg.enc]at cf cp
  unfold leftF
  rcases hpl:placeF cl 0 x.cfg.cabs with _ | ⟨a',b'⟩
  ·rw[hpl]at cp
   simp only[placeD]at cp
   simp(maxSteps:=1000000)(disch:=omega)only[push_cast,hal,h0,h1,h2,get_end,ca,hnn,hk,hr,hlt,g3,hcl,cf,cp,set_end,dUn,Tryz.f62,↓WX,simprocAttr]
   exact ExtS.trans ExtS.app ExtS.app
  rw[hpl]at cp
  simp only[placeD]at cp
  obtain⟨y,row,z,v,e1,e2,e3,e4,e5,e6,e7⟩:=hok.at_ hpl
  obtain⟨tq,tr,tes,rfl,-,ht1,htl,ht2⟩:=hT.tab i id x d g3
  obtain⟨f1,-,f3⟩:=ht2 a' row e2
  have hrow:=hok.rng (by omega) e2
  have ha:a'<x.sold.length:=lt_of_get e2
  have hb:b'<row.length:=lt_of_get e5
  have hge:¬((row.length:Int)≤b'):=by omega
  obtain⟨k0,T0,co,hk0,-,hx0⟩:=rOpen_c (n:=q) (by omega) e7 hrow e6 (get_old (J:=[Ob.row 2 [[.str x.cfg.equip,.sl 4 (x.cfg.cabs.map Cab.enc) x.cfg.cabsx]]]) f3)
  have hk2:=fun (ob:Ob)=>get_old (J:=[ob]) hk
  have hr2:=fun (ob:Ob)=>get_old (J:=[ob]) hr
  have ht2':=fun (ob:Ob)=>get_old (J:=[ob]) ht1
  dsimp only
  rw[e1,e2]
  dsimp only
  simp only[Cab.enc]at co
  simp(maxSteps:=1000000)(disch:=omega)only[push_cast,hal,h0,h1,h2,get_end,ca,hnn,hk,hk2,hr,hr2,hlt,g3,hcl,cf,cp,ht2',f1,e1,ha,co,hk0,hge,hb,rowH_get,set_end,dUn,Cab.enc,Tryz.f62,↓WX,simprocAttr]
  exact fun j ob hj=>hx0 j ob (get_old (get_old hj))
 obtain⟨_,U,ho,rfl,hx⟩:=this
 exact callD_obsS rfl rfl ho hx rfl
theorem upd_rows {f:Leg→Leg} {i:Nat} {x:Leg} {d d':D} (hnd:((rows.map fun r=>(r.1,r.2.1)).map (·.1)).Nodup) (hw:rows[i]? =some (id,x,d)):
  (rows.set i (id,f x,d')).map (fun r=>(r.1,r.2.1))=updL (rows.map fun r=>(r.1,r.2.1)) id f:=by
 refine List.ext_getElem? fun j=>?_
 unfold updL
 rw[List.map_set,List.getElem?_set,List.length_map]
 simp only[List.getElem?_map]
 by_cases e:i=j
 ·subst e
  rw[if_pos rfl,if_pos (lt_of_get hw),hw]
  simp
 ·rw[if_neg e]
  rcases hj:rows[j]? with _ |w
  ·rfl
  ·have hne:¬w.1=id:=by
    intro e2
    have a1:((rows.map fun r=>(r.1,r.2.1)).map (·.1))[j]? =some id:=by simp[hj,e2]
    have a2:((rows.map fun r=>(r.1,r.2.1)).map (·.1))[i]? =some id:=by simp[hw]
    have b1:=lt_of_get a1
    exact e ((List.getElem?_inj (lt_of_get a2) hnd).1 (a2.trans a1.symm))
   simp[hne]
theorem RefAt.cell (h:RefAt S lab o s k rd rows) (hf:FreshL S lab) (hnd:(s.legs.map (·.1)).Nodup) {i r:Nat} {x:Leg} {d:D} (hw:rows[i]? =some (id,x,d)) (hrd:rd=.os r 0 rows.length false) {f:Leg→Leg} (hs:(f x).sold=x.sold):
  RefAt (S.set r (.row 7 ((rows.map rowE).set i (rowE (id,f x,d))))) lab o { s with legs:=updL s.legs id f } k rd (rows.set i (id,f x,d))∧Step o S lab (S.set r (.row 7 ((rows.map rowE).set i (rowE (id,f x,d))))) lab:=by
 obtain⟨r',e,hl,hr⟩:=h.os hw
 have:r'=r:=by rw[hrd]at e;injection e with e1;exact e1.symm
 subst this
 have hrl:=lt_of_get hr
 refine⟨⟨h.labk,?_,?_,h.own,?_,fun j id' x' d' hj=>?_⟩,Step.set hf _ (by rw[hl];rfl)⟩
 ·rw[List.getElem?_set_ne (by rintro rfl;rw[h.labk]at hl;simp at hl)]
  exact h.row
 ·exact .inr ⟨r',by rw[List.length_set];exact hrd,by rw[List.getElem?_set_self hrl,List.map_set]⟩
 ·rw[←h.legs]at hnd
  show _=updL s.legs id f
  rw[←h.legs]
  exact upd_rows hnd hw
 ·have keepT:∀ {t},TabAt S lab o j d' t→TabAt (S.set r' (.row 7 ((rows.map rowE).set i (rowE (id,f x,d))))) lab o j d' t:=fun {t} ht=>ht.keep fun y ob tl hy hly=>by
   refine⟨?_,rfl⟩
   rw[List.getElem?_set_ne]
   ·exact hy
   ·rintro rfl
    rcases hly with hly | ⟨z,hly⟩ <;> (rw[hl]at hly;simp at hly)
  rw[List.getElem?_set]at hj
  split at hj
  ·rename_i e;subst e
   rw[if_pos (lt_of_get hw)]at hj
   cases hj
   rw[hs]
   exact keepT (h.tab i id x d hw)
  ·exact keepT (h.tab j id' x' d' hj)
def RAt (S:List Ob) (lab:Lab) (o k:Nat) (s:Stk):Prop:=FreshL S lab∧∃rd rows,RefAt S lab o s k rd rows
set_option maxHeartbeats 8000000 in
set_option maxRecDepth 100000 in
theorem rCounts_d (hn:180≤n) (h:RefAt S lab o s k rd rows) (ok:StkOk 9999 s) (hl:rows.length≤100) (hls:s.l.length≤100):
  WO (dcall E (n+1) 70 [.loc k 0 0,.agg id.enc] S) fun d T=>GL 2 encC T d (s.counts id)∧ExtS S T∧∀k n,d=.os k 0 n false→S.length≤k:=by
 have hT:=h.push [.row 4 [id.enc]]
 have ca:=rat_c (n:=n) (id:=id) (by omega) hT hl
 have hk:=hT.row
 refine wo_dcall Tryz.func70 rfl (by decide) rfl 65 rfl (fun a hal ha=>?_)
 have h0:a[0]? =some (.loc k 0 0):=ha 0 (by simp)
 have h1:a[1]? =some (.agg id.enc):=ha 1 (by simp)
 clear ha
 simp only[Lid.enc]at h1 ca hk hT
 unfold Stk.counts
 rcases at_rows h id with ⟨g1,g2⟩ | ⟨i,x,d,g1,g2,g3⟩
 ·rw[g1]
  rw[g2]at ca
  simp(maxSteps:=1000000)(disch:=omega)only[push_cast,hal,h0,h1,get_end,ca,Tryz.f70,↓WX,simprocAttr]
  exact⟨GL.nil,ExtS.app⟩
 rw[g1]
 rw[g2]at ca
 obtain⟨r,rfl,-,hr⟩:=hT.os g3
 have hlt:=lt_of_get g3
 have hnn:¬(i:Int)<0:=by omega
 have hok:=ok.get g1
 have hsm:=hok.cfg.sm
 have hl4:=hok.cfg.l2
 have cf:=rconfig_c (n:=n) (by omega) hT g3 hok.find hls
 obtain⟨tq,tr,tes,rfl,-,ht1,htl,ht2⟩:=hT.tab i id x d g3
 dsimp only
 rw[countsF_eq]
 simp only[Cfg.enc]at cf
 simp(maxSteps:=1000000)(disch:=omega)only[push_cast,hal,h0,h1,get_end,set_end,ca,hnn,cf,↓WX,simprocAttr]
 have hSV:ExtS S (S++[Ob.row 4 [[.str id.c,.int .i64 id.n,.int .i64 id.d,.str id.f]]]):=ExtS.app
 generalize hV:S++[Ob.row 4 [[.str id.c,.int .i64 id.n,.int .i64 id.d,.str id.f]]]=V at*
 have hcU:(V++[Ob.row 2 [[.str x.cfg.equip,.sl 4 (x.cfg.cabs.map Cab.enc) x.cfg.cabsx]]])[V.length]? =some (.row 2 [[.str x.cfg.equip,.sl 4 (x.cfg.cabs.map Cab.enc) x.cfg.cabsx]]):=get_end
 have hxU:ExtS V (V++[Ob.row 2 [[.str x.cfg.equip,.sl 4 (x.cfg.cabs.map Cab.enc) x.cfg.cabsx]]]):=ExtS.app
 generalize hU:V++[Ob.row 2 [[.str x.cfg.equip,.sl 4 (x.cfg.cabs.map Cab.enc) x.cfg.cabsx]]]=U at*
 refine wl_loop (fun c a T=>a.length=65∧a[0]? =some (.loc k 0 0)∧a[5]? =some (.int .i64 i)∧a[7]? =some (.loc V.length 0 0)∧a[8]? =some (.int .i64 c)∧ExtS U T∧∃d,a[6]? =some d∧GL 2 encC T d ((slC x.cfg.cabs c).map (cntQ x))∧∀k n,d=.os k 0 n false→U.length≤k) x.cfg.cabs.length ?_ (by omega) ?_
 ·simp(maxSteps:=1000000)(disch:=omega)only[push_cast,hal,h0,Int.natCast_zero,simprocAttr]
  exact⟨ExtS.refl,_,rfl,GL.nil,fun k n h=>by cases h⟩
 clear hal h0 h1 a
 rintro c a T hc ⟨hal,h0,h5,h7,h8,hx0,d,h6,hg,hd⟩
 have hcT:=hx0 _ _ hcU
 rcases Nat.lt_or_eq_of_le hc with hlc |rfl
 case inr=>
  simp(maxSteps:=1000000)(disch:=omega)only[push_cast,hal,h6,h7,h8,Int.lt_irrefl,hcT,Tryz.f70,↓WX,simprocAttr]
  exact⟨hg,hSV.trans (hxU.trans hx0),fun k n e=>Nat.le_trans (hSV.trans hxU).len (hd k n e)⟩
 have hlcc:(c:Int)<x.cfg.cabs.length:=by omega
 obtain⟨y,hy⟩:∃y,x.cfg.cabs[c]? =some y:=⟨x.cfg.cabs[c],by simp[hlc]⟩
 obtain⟨row,hrow,hrl,hyo⟩:=leg_sizes hok hy
 have hl26:=hyo.l2
 have hcs:c<x.sold.length:=lt_of_get hrow
 have hlen:=slC_len hsm.cls c
 obtain⟨f1,-,f3⟩:=ht2 c row hrow
 simp(maxSteps:=1000000)(disch:=omega)only[push_cast,hal,h7,h8,hlcc,hcT,↓WX,simprocAttr]
 refine wl_loop (fun j a T=>a.length=65∧a[0]? =some (.loc k 0 0)∧a[5]? =some (.int .i64 i)∧a[7]? =some (.loc V.length 0 0)∧a[8]? =some (.int .i64 c)∧a[9]? =some (.int .i64 j)∧ExtS U T∧∃d,a[6]? =some d∧GL 2 encC T d ((slC x.cfg.cabs c++slJ c y j).map (cntQ x))∧∀k n,d=.os k 0 n false→U.length≤k) y.cls.length ?_ (by omega) ?_
 ·simp(maxSteps:=1000000)(disch:=omega)only[push_cast,hal,h0,h5,h6,h7,h8,Int.natCast_zero,slJ,List.append_nil,simprocAttr]
  exact⟨hx0,_,rfl,hg,hd⟩
 clear h6 hg hd hx0 hcT
 clear hal h0 h5 h7 h8 a
 clear d T
 rintro j a T hj ⟨hal,h0,h5,h7,h8,h9,hx0,d,h6,hg,hd⟩
 have hcT:=hx0 _ _ hcU
 rcases Nat.lt_or_eq_of_le hj with hlj |rfl
 case inr=>
  rw[←slC_succ hy]at hg
  simp(maxSteps:=1000000)(disch:=omega)only[push_cast,hal,h0,h5,h6,h7,h8,h9,Int.lt_irrefl,hcT,hlc,hy,Cab.enc,wrap_ok,Int.natCast_add,Int.natCast_one,↓WX,simprocAttr]
  exact⟨hx0,_,rfl,hg,hd⟩
 have hljc:(j:Int)<y.cls.length:=by omega
 obtain⟨z,hz⟩:∃z,y.cls[j]? =some z:=⟨y.cls[j],by simp[hlj]⟩
 have hlenj:=slJ_len c y j
 obtain⟨v,hv⟩:∃v,row[j]? =some v:=⟨row[j],by simp[hrl,hlj]⟩
 have hjr:j<row.length:=by omega
 have hcq:cntQ x (c,j,z)=(z.code,v):=by simp[cntQ,soldAt,hrow,hv]
 obtain⟨T',ha,hg',hlen',hkeep,hrw⟩:=app_cnt hg (by rw[List.length_map,List.length_append];omega) z.code v
 rw[List.length_map]at ha hg'
 rw[←hcq,←List.map_singleton (f:=cntQ x),←List.map_append,List.append_assoc,←slJ_succ hz]at hg'
 have hkT:=hx0 _ _ (hxU _ _ hk)
 have hrT:=hx0 _ _ (hxU _ _ hr)
 have htT:=hx0 _ _ (hxU _ _ ht1)
 have hfT:=hx0 _ _ (hxU _ _ f3)
 simp(maxSteps:=1000000)(disch:=omega)only[push_cast,hal,h0,h5,h6,h7,h8,h9,hlj,hljc,hcT,hy,hz,hkT,hrT,htT,hfT,f1,hlt,g3,hcs,hjr,hv,ha,Cab.enc,Cls.enc,wrap_ok,Int.natCast_add,Int.natCast_one,↓WX,simprocAttr]
 refine⟨fun j' o hj'=>hkeep j' o (fun n e=>?_) (hx0 j' o hj'),_,rfl,hg',fun k n e=>?_⟩
 ·have:=hd _ _ e
  have:=lt_of_get hj'
  omega
 ·injection e with e1
  have:=hx0.len
  omega
theorem rCounts_c (hn:190≤n) (h:RefAt S lab o s k rd rows) (ok:StkOk 9999 s) (hl:rows.length≤100) (hls:s.l.length≤100):
  ∃d T,(∀st,callD E (dcall E n) st S 70 [.loc k 0 0,.agg id.enc]=some (d,T))∧GL 2 encC T d (s.counts id)∧ExtS S T∧∀k n,d=.os k 0 n false→S.length≤k:=by
 obtain⟨q,rfl⟩:∃q,n=q+1:=⟨n-1,by omega⟩
 obtain⟨d,T,ho,h1,h2,h3⟩:=rCounts_d (id:=id) (n:=q) (by omega) h ok hl hls
 exact⟨d,T,fun st=>callD_extS rfl ho h2,h1,h2,h3⟩
end
end Go.Proofs.YtkemehicndccmaaGreatDoor.Dm
