/-
  The reference's check of a condition, third part: the parts, and all.
  The machine at availability of journeys: usable, Open.
  Bids: prices, what is accepted, seats (the program).
  offer.Bid (the program).
  Layer 18's conditions: right curves, legs.
-/
import Derived.Test.YtkemehicndccmaaGreatDoorCdB
import Derived.Test.YtkemehicndccmaaGreatDoorCoA
set_option linter.unusedSimpArgs false
set_option linter.unusedVariables false
namespace Go.Proofs.YtkemehicndccmaaGreatDoor.Dm
open Go Gw
set_option linter.unusedSimpArgs false
set_option linter.unusedSimpArgs false
theorem bulk_text:∀ {l:List ByteArray} {s:ByteArray},s∈l→s.size+1≤bulkLL (l.map Cnd.encT)
 | [],s,h=>by cases h
 |x::l,s,h=>by
  simp only[List.map_cons,bulkLL,bulkL,bulkD]
  rcases List.mem_cons.1 h with rfl |h
  ·omega
  ·have:=bulk_text h;omega
theorem text_len:∀l:List ByteArray,l.length≤bulkLL (l.map Cnd.encT)
 | []=>Nat.zero_le _
 |x::l=>by
  have:=text_len l
  simp only[List.map_cons,bulkLL,bulkL,bulkD,List.length_cons];omega
mutual
def Cnd.Wf:Cnd→Prop
 | .mk _ l _ _ _ pf pt _ _ _=>(-9223372036854775808≤pf∧pt≤9223372036854775807)∧Cnd.Wfs l
def Cnd.Wfs:List Cnd→Prop
 | []=>True
 |c::cs=>c.Wf∧Cnd.Wfs cs
end
theorem Cnd.Wfs.mem:∀ {l:List Cnd},Cnd.Wfs l→∀c∈l,c.Wf
 | [],_,c,h=>by cases h
 |x::l,hw,c,h=>by
  rw[Cnd.Wfs]at hw
  rcases List.mem_cons.1 h with rfl |h
  ·exact hw.1
  ·exact Cnd.Wfs.mem hw.2 c h
theorem Cnd.Wf.get {k u v pf pt pd:Int} {l:List Cnd} {lx tx:Bool} {t:List ByteArray} (h:Cnd.Wf (.mk k l lx u v pf pt pd t tx)):(-9223372036854775808≤pf∧pt≤9223372036854775807)∧∀c∈l,c.Wf:=by
 rw[Cnd.Wf]at h
 exact⟨h.1,fun c hc=>h.2.mem c hc⟩
section
variable {n : Nat}
set_option maxHeartbeats 4000000 in
set_option maxRecDepth 100000 in
theorem part20_c (c:Cnd) (hw:c.Wf) (hb:bulkL c.enc≤1048576) (hn:1050000≤n):∃e:Int,∀st S,callD E (dcall E n) st S 141 [.agg c.enc]=some (.int .i64 e,S):=by
 obtain⟨m,rfl⟩:∃m,n=m+1:=⟨n-1,by omega⟩
 have hp:=Cnd.pure c
 obtain⟨b1,ce⟩:=extra20_c (n:=m) (by omega) c
 obtain⟨b2,cw⟩:=wrong20_c (n:=m) (by omega) c
 cases c with |mk k l lx u v pf pt pd t tx=>?_
 obtain⟨⟨w1,w2⟩,-⟩:=hw.get
 simp only[Cnd.enc]at hp hb ce cw ⊢
 simp only[bulkL,bulkD]at hb
 have htl:=text_len t
 obtain⟨b3,cp⟩:=period20_c (n:=m) (by omega) k
 obtain⟨b4,cc⟩:=codes20_c (n:=m) (by omega) k
 obtain⟨e4,-,c4⟩:=r04Check_c (n:=m) (by omega) pf pt pd w1 w2
 have:WO (dcall E (m+1) 141 [.agg [.int .i64 k,.sl 8 (Cnd.encs l) lx,.int .i64 u,.int .i64 v,.int .i64 pf,.int .i64 pt,.int .i64 pd,.sl 1 (t.map Cnd.encT) tx]] []) fun r T=>∃e:Int,r=.int .i64 e:=by
  refine wo_dcall Tryz.func141 rfl (by decide) rfl 57 rfl (fun a hal ha=>?_)
  have h0:a[0]? =some (.agg [.int .i64 k,.sl 8 (Cnd.encs l) lx,.int .i64 u,.int .i64 v,.int .i64 pf,.int .i64 pt,.int .i64 pd,.sl 1 (t.map Cnd.encT) tx]):=ha 0 (by simp)
  clear ha
  by_cases k1:k<1
  ·simp(maxSteps:=1000000)(disch:=omega)only[push_cast,hal,h0,k1,Tryz.f141,↓WX,simprocAttr]
   exact⟨_,rfl⟩
  by_cases k2:14<k
  ·simp(maxSteps:=1000000)(disch:=omega)only[push_cast,gt_iff_lt,hal,h0,k1,k2,Tryz.f141,↓WX,simprocAttr]
   exact⟨_,rfl⟩
  cases b1
  case true=>
   simp(maxSteps:=1000000)(disch:=omega)only[push_cast,gt_iff_lt,hal,h0,k1,k2,ce,Tryz.f141,↓WX,simprocAttr]
   exact⟨_,rfl⟩
  cases b2
  case true=>
   simp(maxSteps:=1000000)(disch:=omega)only[push_cast,gt_iff_lt,hal,h0,k1,k2,ce,cw,Tryz.f141,↓WX,simprocAttr]
   exact⟨_,rfl⟩
  cases b3
  case true=>
   simp(maxSteps:=1000000)(disch:=omega)only[push_cast,gt_iff_lt,hal,h0,k1,k2,ce,cw,cp,c4,Tryz.f141,↓WX,simprocAttr]
   exact⟨_,rfl⟩
  by_cases q:b4=true∧(t.length:Int)=0
  ·obtain⟨rfl,q⟩:=q
   simp(maxSteps:=1000000)(disch:=omega)only[push_cast,gt_iff_lt,hal,h0,k1,k2,ce,cw,cp,cc,q,Tryz.f141,↓WX,simprocAttr]
   exact⟨_,rfl⟩
  obtain⟨r0,hr0⟩:∃r0:Bool,r0=(b4 && decide ((t.length:Int)=0)):=⟨_,rfl⟩
  have hr1:r0=false:=by
   rw[hr0]
   cases b4
   ·rfl
   ·exact decide_eq_false fun h=>q ⟨rfl,h⟩
  have hr2:b4=true→decide ((t.length:Int)=0)=false:=fun h=>by rw[hr1,h]at hr0;exact hr0.symm
  cases b4
  case' false=>
   simp(maxSteps:=1000000)(disch:=omega)only[push_cast,gt_iff_lt,hal,h0,k1,k2,ce,cw,cp,cc,↓WX,simprocAttr]
  case' true=>
   have hr2:=hr2 rfl
   simp(maxSteps:=1000000)(disch:=omega)only[push_cast,gt_iff_lt,hal,h0,k1,k2,ce,cw,cp,cc,hr2,↓WX,simprocAttr]
  all_goals
   refine wl_loop (fun i a T=>T=[Ob.row 8 [[.int .i64 k,.sl 8 (Cnd.encs l) lx,.int .i64 u,.int .i64 v,.int .i64 pf,.int .i64 pt,.int .i64 pd,.sl 1 (t.map Cnd.encT) tx]]]∧a.length=57∧a[1]? =some (.loc 0 0 0)∧a[3]? =some (.int .i64 i)) t.length ?_ (by omega) ?_
   ·simp(maxSteps:=1000000)(disch:=omega)only[push_cast,hal,Int.natCast_zero,simprocAttr]
   clear hal h0 a
   rintro i a T hi ⟨rfl,hal,h1,h3⟩
   rcases Nat.lt_or_eq_of_le hi with hlt |rfl
   case inr=>
    simp(maxSteps:=1000000)(disch:=omega)only[push_cast,hal,h1,h3,Int.lt_irrefl,Tryz.f141,↓WX,simprocAttr]
    exact⟨_,rfl⟩
   obtain⟨x,hx⟩:∃x,t[i]? =some x:=⟨t[i],by simp⟩
   have hltc:(i:Int)<t.length:=by omega
   have hne:¬i=t.length:=by omega
   have hxs:=bulk_text (List.mem_of_getElem? hx)
   obtain⟨d1,cd1⟩:=code20_c (n:=m) (s:=x) (by omega) (by omega) k
   cases d1
   case false=>
    simp(maxSteps:=1000000)(disch:=omega)only[push_cast,hal,h1,h3,hltc,hx,cd1,dUn,Bool.not_false,Tryz.f141,↓WX,simprocAttr]
    exact⟨_,rfl⟩
   obtain⟨d2,cd2⟩:=has20_c (n:=m) (l:=t.take i) (lx:=false) (by rw[List.length_take];omega) (by omega) x
   rw[List.map_take]at cd2
   cases d2
   case true=>
    simp(maxSteps:=1000000)(disch:=omega)only[push_cast,hal,h1,h3,hltc,hx,cd1,cd2,hi,hne,Nat.zero_le,and_self,Nat.sub_zero,List.drop_zero,decide_false,Bool.and_false,dUn,Bool.not_true,Tryz.f141,↓WX,simprocAttr]
    exact⟨_,rfl⟩
   simp(maxSteps:=1000000)(disch:=omega)only[push_cast,hal,h1,h3,hltc,hlt,hx,cd1,cd2,hi,hne,Nat.zero_le,and_self,Nat.sub_zero,List.drop_zero,decide_false,Bool.and_false,dUn,Bool.not_true,wrap_ok,Int.natCast_add,Int.natCast_one,↓WX,simprocAttr]
 obtain⟨_,T,ho,b,rfl⟩:=this
 exact⟨b,fun st S=>callD_pure rfl (by rw[pureL_cons,D.pure,hp];rfl) ho rfl⟩
set_option maxHeartbeats 4000000 in
set_option maxRecDepth 100000 in
theorem parts20_c:∀(m:Nat) (n:Nat) (c:Cnd),c.Wf→bulkL c.enc≤m→m≤1048576→2000000+m≤n→∃e:Int,∀st S,callD E (dcall E n) st S 126 [.agg c.enc]=some (.int .i64 e,S)
 |0,n,.mk k l lx u v pf pt pd t tx,_,h,_,_=>by simp only[Cnd.enc,bulkL,bulkD]at h;omega
 |m+1,n,.mk k l lx u v pf pt pd t tx,hwf,h,hm,hn=>by
  obtain⟨n,rfl⟩:∃n',n=n'+1:=⟨n-1,by omega⟩
  have hp:=Cnd.pure (.mk k l lx u v pf pt pd t tx)
  obtain⟨e1,c1⟩:=part20_c (n:=n) (.mk k l lx u v pf pt pd t tx) hwf (by omega) (by omega)
  have hwl:=hwf.get.2
  simp only[Cnd.enc]at h hp c1 ⊢
  simp only[bulkL,bulkD]at h
  have hl:=Cnd.len_le l
  have hel:=Cnd.encs_len l
  have:WO (dcall E (n+1) 126 [.agg [.int .i64 k,.sl 8 (Cnd.encs l) lx,.int .i64 u,.int .i64 v,.int .i64 pf,.int .i64 pt,.int .i64 pd,.sl 1 (t.map Cnd.encT) tx]] []) fun d T=>∃e:Int,d=.int .i64 e:=by
   refine wo_dcall Tryz.func126 rfl (by decide) rfl 27 rfl (fun a hal ha=>?_)
   have h0:a[0]? =some (.agg [.int .i64 k,.sl 8 (Cnd.encs l) lx,.int .i64 u,.int .i64 v,.int .i64 pf,.int .i64 pt,.int .i64 pd,.sl 1 (t.map Cnd.encT) tx]):=ha 0 (by simp)
   clear ha
   by_cases q1:e1=0
   case neg=>
    simp(maxSteps:=1000000)(disch:=omega)only[push_cast,not_false_eq_true,hal,h0,c1,q1,decide_true,Tryz.f126,↓WX,simprocAttr]
    exact⟨_,rfl⟩
   subst q1
   simp(maxSteps:=1000000)(disch:=omega)only[push_cast,not_true_eq_false,hal,h0,c1,↓WX,simprocAttr]
   refine wl_loop (fun i a T=>T=[Ob.row 8 [[.int .i64 k,.sl 8 (Cnd.encs l) lx,.int .i64 u,.int .i64 v,.int .i64 pf,.int .i64 pt,.int .i64 pd,.sl 1 (t.map Cnd.encT) tx]]]∧a.length=27∧a[1]? =some (.loc 0 0 0)∧a[4]? =some (.int .i64 i)) l.length ?_ (by omega) ?_
   ·simp(maxSteps:=1000000)(disch:=omega)only[push_cast,hal,Int.natCast_zero,simprocAttr]
   clear hal h0 a
   rintro i a T hi ⟨rfl,hal,h1,h4⟩
   rcases Nat.lt_or_eq_of_le hi with hlt |rfl
   case inr=>
    simp(maxSteps:=1000000)(disch:=omega)only[push_cast,hal,h1,h4,hel,Int.lt_irrefl,Tryz.f126,↓WX,simprocAttr]
    exact⟨_,rfl⟩
   obtain⟨x,hx⟩:∃x,l[i]? =some x:=⟨l[i],by simp⟩
   have hltc:(i:Int)<l.length:=by omega
   have hb:=Cnd.bulk_get hx
   obtain⟨e2,cx⟩:=parts20_c m n x (hwl x (List.mem_of_getElem? hx)) (by omega) (by omega) (by omega)
   have hg:=Cnd.encs_get hx
   cases x with |mk k' l' lx' u' v' pf' pt' pd' t' tx'=>?_
   simp only[Cnd.enc]at cx hg
   by_cases q2:e2=0
   case neg=>
    simp(maxSteps:=1000000)(disch:=omega)only[push_cast,not_false_eq_true,hal,h1,h4,hel,hltc,hg,cx,q2,decide_true,Tryz.f126,↓WX,simprocAttr]
    exact⟨_,rfl⟩
   subst q2
   simp(maxSteps:=1000000)(disch:=omega)only[push_cast,not_true_eq_false,hal,h1,h4,hel,hltc,hlt,hg,cx,decide_true,wrap_ok,Int.natCast_add,Int.natCast_one,↓WX,simprocAttr]
  obtain⟨_,T,ho,e,rfl⟩:=this
  exact⟨e,fun st S=>callD_pure rfl (by rw[pureL_cons,D.pure,hp];rfl) ho rfl⟩
theorem Check20_c (c:Cnd) (hw:c.Wf) (hb:bulkL c.enc≤1048576) (hn:3100000≤n):∃e:Int,∀st S,callD E (dcall E n) st S 100 [.agg c.enc]=some (.int .i64 e,S):=by
 obtain⟨m,rfl⟩:∃m,n=m+1:=⟨n-1,by omega⟩
 have hp:=Cnd.pure c
 have c1:=levels_c 1048576 m c hb (by omega) (by omega)
 have c2:=Size_c 1048576 m c hb (by omega) (by omega)
 obtain⟨e,c3⟩:=parts20_c 1048576 m c hw hb (by omega) (by omega)
 generalize c.lev=lv at*
 generalize c.siz=sz at*
 cases c with |mk k l lx u v pf pt pd t tx=>?_
 simp only[Cnd.enc]at hp c1 c2 c3 ⊢
 have:WO (dcall E (m+1) 100 [.agg [.int .i64 k,.sl 8 (Cnd.encs l) lx,.int .i64 u,.int .i64 v,.int .i64 pf,.int .i64 pt,.int .i64 pd,.sl 1 (t.map Cnd.encT) tx]] []) fun d T=>∃e:Int,d=.int .i64 e:=by
  refine wo_dcall Tryz.func100 rfl (by decide) rfl 13 rfl (fun a hal ha=>?_)
  have h0:a[0]? =some (.agg [.int .i64 k,.sl 8 (Cnd.encs l) lx,.int .i64 u,.int .i64 v,.int .i64 pf,.int .i64 pt,.int .i64 pd,.sl 1 (t.map Cnd.encT) tx]):=ha 0 (by simp)
  clear ha
  by_cases q1:(8:Int)<lv <;> by_cases q2:(128:Int)<sz <;>
   (simp(maxSteps:=1000000)(disch:=omega)only[push_cast,gt_iff_lt,hal,h0,c1,c2,c3,q1,q2,Tryz.f100,↓WX,simprocAttr]
    exact⟨_,rfl⟩)
 obtain⟨_,T,ho,e,rfl⟩:=this
 exact⟨e,fun st S=>callD_pure rfl (by rw[pureL_cons,D.pure,hp];rfl) ho rfl⟩
end
end Go.Proofs.YtkemehicndccmaaGreatDoor.Dm
namespace Go.Proofs.YtkemehicndccmaaGreatDoor.Dm
open Go Gw
set_option linter.unusedSimpArgs false
set_option linter.unusedSimpArgs false

def IdSet (ps:List (D×D)) (l:List Lid):Prop:=(∀p∈ps,∃s:Lid,p.1=.agg s.enc)∧∀t:Lid,lookM ps (.agg t.enc)=if t∈l then some (.bool true) else none
theorem IdSet.nil:IdSet [] []:=⟨fun p h=>(by cases h),fun t=>by simp[lookM]⟩
theorem look_putL:∀(ps:List (D×D)) (s t:Lid) (v:D),(∀p∈ps,∃s:Lid,p.1=.agg s.enc)→lookM (putM ps (.agg s.enc) v) (.agg t.enc)=if s=t then some v else lookM ps (.agg t.enc)
 | [],s,t,v,_=>by
  by_cases e:s=t
  ·simp[putM,lookM,key_eq,e]
  ·simp[putM,lookM,key_eq,e]
 | (a,b)::ps,s,t,v,h=>by
  obtain⟨u,hu⟩:=h (a,b) (by simp)
  have hu:a=.agg u.enc:=hu
  subst hu
  have ih:=look_putL ps s t v (fun p hp=>h p (by simp[hp]))
  by_cases e:u=s
  ·subst e
   rw[putM,key_eq,if_pos (by simp)]
   by_cases e2:u=t
   ·simp[lookM,key_eq,e2]
   ·simp[lookM,key_eq,e2]
  ·rw[putM,key_eq,if_neg (by simpa using e)]
   by_cases e2:u=t
   ·subst e2
    rw[if_neg (fun x=>e x.symm)]
    simp[lookM,key_eq]
   ·have l1:lookM ((.agg u.enc,b)::putM ps (.agg s.enc) v) (.agg t.enc)=lookM (putM ps (.agg s.enc) v) (.agg t.enc):=by simp[lookM,key_eq,e2]
    have l2:lookM ((.agg u.enc,b)::ps) (.agg t.enc)=lookM ps (.agg t.enc):=by simp[lookM,key_eq,e2]
    rw[l1,l2,ih]
theorem put_keysL:∀(ps:List (D×D)) (s:Lid) (v:D),(∀p∈ps,∃s:Lid,p.1=.agg s.enc)→∀p∈putM ps (.agg s.enc) v,∃s:Lid,p.1=.agg s.enc
 | [],s,v,_,p,hp=>by
  simp only[putM,List.mem_singleton]at hp
  subst hp
  exact⟨s,rfl⟩
 | (a,b)::ps,s,v,h,p,hp=>by
  rw[putM]at hp
  split at hp
  ·rcases List.mem_cons.1 hp with rfl |hp
   ·exact h (a,b) (by simp)
   ·exact h p (by simp[hp])
  ·rcases List.mem_cons.1 hp with rfl |hp
   ·exact h (a,b) (by simp)
   ·exact put_keysL ps s v (fun q hq=>h q (by simp[hq])) p hp
theorem IdSet.put {ps:List (D×D)} {l:List Lid} (h:IdSet ps l) (s:Lid):IdSet (putM ps (.agg s.enc) (.bool true)) (l++[s]):=by
 refine⟨put_keysL ps s _ h.1,fun t=>?_⟩
 rw[look_putL ps s t _ h.1,h.2]
 by_cases e:s=t
 ·simp[e]
 ·have e':¬t=s:=fun x=>e x.symm
  simp[e,e']
section
variable {S : List Ob} {lab : Lab} {o k m n : Nat} {s : Stk} {ps : List (D × D)} {ids : List Lid}
set_option maxHeartbeats 8000000 in
set_option maxRecDepth 100000 in
theorem usable_c (hn:190≤n) (h:StkAt S lab o kL (.loc k 0 0) s k m ps) (hl:ids.length≤20) (hids:∀id∈ids,id.Ok) {di:D} (hdi:FLs 4 Lid.enc di ids) (st:Bool):
  callD E (dcall E n) st S 29 [.loc k 0 0,di]=some (.bool (usF s ids),S):=by
 obtain⟨q,rfl⟩:∃q,n=q+1:=⟨n-1,by omega⟩
 have:WO (dcall E (q+1) 29 [.loc k 0 0,di] S) fun r T=>r=.bool (usF s ids)∧ExtS S T:=by
  refine wo_dcall Tryz.func29 rfl (by decide) rfl 36 rfl (fun a hal ha=>?_)
  have h0:a[0]? =some (.loc k 0 0):=ha 0 (by simp)
  have h1:a[1]? =some (di):=ha 1 (by simp)
  clear ha
  rcases hdi with ⟨rfl,rfl⟩ | ⟨x,rfl⟩
  ·simp(maxSteps:=1000000)(disch:=omega)only[push_cast,hal,h1,↓WX,simprocAttr]
   refine wl_loop (fun i a T=>i=0∧T=S++[.map kL []]∧a.length=36∧a[1]? =some (.nils)∧a[12]? =some (.int .i64 0)∧a[13]? =some (.int .i64 0)) 0 ?_ (by omega) ?_
   ·simp(maxSteps:=1000000)(disch:=omega)only[push_cast,hal,h1,simprocAttr]
   clear hal h0 h1 a
   rintro i a T _ ⟨rfl,rfl,hal,h1,h12,h13⟩
   simp(maxSteps:=1000000)(disch:=omega)only[push_cast,gt_iff_lt,ne_eq,not_true_eq_false,hal,h1,h12,h13,Int.lt_irrefl,usF,Tryz.f29,↓WX,simprocAttr]
   exact ExtS.app
  simp(maxSteps:=1000000)(disch:=omega)only[push_cast,hal,h1,↓WX,simprocAttr]
  refine wl_loop (fun i a T=>a.length=36∧a[0]? =some (.loc k 0 0)∧a[1]? =some (.sl 4 (ids.map Lid.enc) x)∧a[5]? =some (.map S.length)∧a[11]? =some (.sl 4 (ids.map Lid.enc) x)∧a[12]? =some (.int .i64 ids.length)∧a[13]? =some (.int .i64 i)∧ExtS S T∧(∃ms,T[S.length]? =some (.map kL ms)∧IdSet ms (ids.take i))∧(ids.take i).Nodup∧∀j id,j<i→ids[j]? =some id→(s.get id).isSome=true) ids.length ?_ (by omega) ?_
  ·simp(maxSteps:=1000000)(disch:=omega)only[push_cast,hal,h0,h1,Int.natCast_zero,List.take_zero,List.nodup_nil,simprocAttr]
   exact⟨ExtS.app,⟨[],get_end,IdSet.nil⟩,fun j id hj=>by omega⟩
  clear hal h0 h1 a
  rintro i a T hi ⟨hal,h0,h1,h5,h11,h12,h13,hx,⟨ms,hm,hset⟩,hnd,hsome⟩
  rcases Nat.lt_or_eq_of_le hi with hlt |rfl
  case inr=>
   rw[List.take_length]at hnd
   have hall:(ids.all fun id=>(s.get id).isSome)=true:=List.all_eq_true.2 fun id hid=>by
    obtain⟨j,hj⟩:=List.mem_iff_getElem?.1 hid
    exact hsome j id (lt_of_get hj) hj
   have hus:usF s ids=decide (0<ids.length):=by
    unfold usF
    rw[hall,decide_eq_true hnd,Bool.and_true,Bool.and_true]
    cases ids <;> simp
   rw[hus]
   simp(maxSteps:=1000000)(disch:=omega)only[push_cast,gt_iff_lt,hal,h1,h12,h13,Nat.lt_irrefl,Tryz.f29,↓WX,simprocAttr]
   exact⟨by simp,hx⟩
  obtain⟨id,hid⟩:∃id,ids[i]? =some id:=⟨ids[i],by simp⟩
  have hidm:=List.mem_of_getElem? hid
  have hT:=(h.keep (KeepO.ext hx)).push [.row 4 [id.enc]]
  have ce:=Equip_c (n:=q) (by omega) hT (hids id hidm)
  have ko:=keyOk_lid (hids id hidm)
  have ks:=keys_lid
  have hmx:∀ob,(T++[ob])[S.length]? =some (.map kL ms):=fun ob=>get_old hm
  have hlk:=hset.2 id
  have hTl:=lt_of_get hm
  rcases hg:s.get id with _ |y
  ·have hus:usF s ids=false:=by
    unfold usF
    rw[all_false (p:=fun id=>(s.get id).isSome) hid (by rw[hg];rfl),Bool.and_false]
   rw[hus]
   have heq:s.equip id=none:=by unfold Stk.equip;rw[hg];rfl
   rw[heq]at ce
   simp only[Lid.enc,equipD]at ce
   simp(maxSteps:=1000000)(disch:=omega)only[push_cast,hal,h0,h11,h12,h13,hlt,hid,set_end,get_end,ce,dUn,Lid.enc,Tryz.f29,↓WX,simprocAttr]
   exact hx.push _
  ·have heq:s.equip id=some y.cfg.equip:=by unfold Stk.equip;rw[hg];rfl
   rw[heq]at ce
   by_cases hin:id∈ids.take i
   ·have hus:usF s ids=false:=by
     unfold usF
     obtain⟨j,hj⟩:=List.mem_iff_getElem?.1 hin
     have hji:j<i:=by
      have:=lt_of_get hj
      rw[List.length_take]at this;omega
     rw[List.getElem?_take_of_lt hji]at hj
     rw[decide_eq_false (dup_of hji hj hid),Bool.and_false,Bool.false_and]
    rw[hus]
    rw[if_pos hin]at hlk
    simp only[Lid.enc,equipD]at ce ko hlk
    simp(maxSteps:=1000000)(disch:=omega)only[push_cast,hal,h0,h5,h11,h12,h13,hlt,hid,set_end,get_end,ce,hmx,ko,ks,hlk,dUn,Lid.enc,Tryz.f29,↓WX,simprocAttr]
    exact hx.push _
   ·rw[if_neg hin]at hlk
    have hput:=hset.put id
    have hst:ids.take i++[id]=ids.take (i+1):=by rw[List.take_add_one,hid];rfl
    rw[hst]at hput
    have hltm:S.length<(T++[Ob.row 4 [id.enc]]).length:=by rw[List.length_append];omega
    simp only[Lid.enc,equipD]at ce ko hlk hput hltm
    simp(maxSteps:=1000000)(disch:=omega)only[push_cast,hal,h0,h1,h5,h11,h12,h13,hlt,hid,set_end,get_end,ce,hmx,ko,ks,hlk,dUn,Lid.enc,wrap_ok,Int.natCast_add,Int.natCast_one,↓WX,simprocAttr]
    refine⟨(hx.push _).set (Nat.le_refl _) _,⟨_,if_pos hltm,hput⟩,take_nodup hnd hid (fun j hj e=>hin (List.mem_of_getElem? (i:=j) (by rw[List.getElem?_take_of_lt hj];exact e))),fun j id' hj hj'=>?_⟩
    by_cases ej:j=i
    ·subst ej
     rw[hid]at hj'
     cases hj'
     rw[hg];rfl
    ·exact hsome j id' (by omega) hj'
 obtain⟨_,U,ho,rfl,hx⟩:=this
 exact callD_obsS rfl (by simp[pureL_cons,D.pure]) ho hx rfl
set_option maxHeartbeats 8000000 in
set_option maxRecDepth 100000 in
theorem OOpen_c (hn:210≤n) (h:StkAt S lab o kL (.loc k 0 0) s k m ps) (ok:StkOk 9999 s) (hl:ids.length≤20) (hids:∀id∈ids,id.Ok) {di:D} (hdi:FLs 4 Lid.enc di ids) (cl:ByteArray) (st:Bool):
  callD E (dcall E n) st S 11 [.loc k 0 0,di,.str cl]=some (.int .i64 (openF s ids cl),S):=by
 obtain⟨q,rfl⟩:∃q,n=q+1:=⟨n-1,by omega⟩
 have cu:=usable_c (n:=q) (by omega) h hl hids hdi
 have:WO (dcall E (q+1) 11 [.loc k 0 0,di,.str cl] S) fun r T=>r=.int .i64 (openF s ids cl)∧ExtS S T:=by
  refine wo_dcall Tryz.func11 rfl (by decide) rfl 35 rfl (fun a hal ha=>?_)
  have h0:a[0]? =some (.loc k 0 0):=ha 0 (by simp)
  have h1:a[1]? =some (di):=ha 1 (by simp)
  have h2:a[2]? =some (.str cl):=ha 2 (by simp)
  clear ha
  unfold openF
  cases hu:usF s ids
  ·rw[hu]at cu
   rw[if_neg (by simp)]
   simp(maxSteps:=1000000)(disch:=omega)only[push_cast,hal,h0,h1,cu,dUn,Tryz.f11,↓WX,simprocAttr]
   exact ExtS.refl
  rw[hu]at cu
  rw[if_pos rfl]
  have hne:ids≠[]:=by
   rintro rfl
   simp[usF]at hu
  rcases ids with _ | ⟨id0,rest⟩
  ·exact absurd rfl hne
  obtain⟨x,rfl⟩:∃x,di=.sl 4 ((id0::rest).map Lid.enc) x:=by
   rcases hdi with ⟨-,e⟩ |h
   ·cases e
   ·exact h
  have c0:=Left_c (n:=q) (by omega) h ok (hids id0 (by simp)) cl
  have hrl:rest.length≤19:=by simpa using hl
  have e1:¬(rest.length:Int)+1<1:=by omega
  have e2:(rest.map Lid.enc).take rest.length=rest.map Lid.enc:=List.take_of_length_le (by simp)
  dsimp only
  simp only[Lid.enc,List.map_cons]at c0 h1 cu
  change a[1]? =some (.sl 4 ([.str id0.c,.int .i64 id0.n,.int .i64 id0.d,.str id0.f]::rest.map Lid.enc) x) at h1
  simp(maxSteps:=1000000)(disch:=omega)only[push_cast,hal,h0,h1,h2,cu,c0,dUn,List.length_cons,Nat.add_sub_cancel,e2,Nat.le_add_left,Nat.le_refl,List.drop_succ_cons,List.drop_zero,↓WX,simprocAttr]
  have hmin:∀(m:Int) (j:Nat) (id:Lid),rest[j]? =some id→minF s cl m (rest.drop j)=minF s cl (min m (s.left id cl)) (rest.drop (j+1)):=fun m j id hj=>by rw[drop_at hj,minF]
  refine wl_loop (fun i a T=>a.length=35∧a[0]? =some (.loc k 0 0)∧a[2]? =some (.str cl)∧a[21]? =some (.sl 4 (rest.map Lid.enc) x)∧a[22]? =some (.int .i64 rest.length)∧a[23]? =some (.int .i64 i)∧ExtS S T∧∃w,a[7]? =some (.int .i64 w)∧minF s cl (s.left id0 cl) rest=minF s cl w (rest.drop i)) rest.length ?_ (by omega) ?_
  ·simp(maxSteps:=1000000)(disch:=omega)only[push_cast,hal,h0,h2,Int.natCast_zero,List.drop_zero,simprocAttr]
   exact⟨ExtS.refl,_,rfl,rfl⟩
  clear hal h0 h1 h2 a
  rintro i a T hi ⟨hal,h0,h2,h21,h22,h23,hx,w,h7,hw⟩
  rcases Nat.lt_or_eq_of_le hi with hlt |rfl
  case inr=>
   rw[hw,List.drop_length]
   simp(maxSteps:=1000000)(disch:=omega)only[push_cast,hal,h7,h22,h23,Nat.lt_irrefl,minF,Tryz.f11,↓WX,simprocAttr]
   exact hx
  obtain⟨id,hid⟩:∃id,rest[i]? =some id:=⟨rest[i],by simp⟩
  have hidm:=List.mem_of_getElem? hid
  have hT:=(h.keep (KeepO.ext hx)).push [.row 4 [id.enc]]
  have cl':=Left_c (n:=q) (by omega) hT ok (hids id (by simp[hidm])) cl
  rw[hmin w i id hid]at hw
  simp only[Lid.enc]at cl'
  by_cases hlw:w≤s.left id cl
  ·rw[Int.min_eq_left hlw]at hw
   simp(maxSteps:=1000000)(disch:=omega)only[push_cast,hal,h0,h2,h7,h21,h22,h23,hlt,hid,set_end,get_end,cl',Lid.enc,wrap_ok,Int.natCast_add,Int.natCast_one,↓WX,simprocAttr]
   exact⟨hx.push _,_,rfl,by rw[if_neg (by omega)];exact hw⟩
  ·rw[Int.min_eq_right (by omega)]at hw
   simp(maxSteps:=1000000)(disch:=omega)only[push_cast,hal,h0,h2,h7,h21,h22,h23,hlt,hid,set_end,get_end,cl',Lid.enc,wrap_ok,Int.natCast_add,Int.natCast_one,↓WX,simprocAttr]
   exact⟨hx.push _,_,rfl,by rw[if_pos (by omega)];exact hw⟩
 obtain⟨_,U,ho,rfl,hx⟩:=this
 exact callD_obsS rfl (by simp[pureL_cons,D.pure]) ho hx rfl
end
set_option linter.unusedSimpArgs false

/-! ### Plain -/
structure Crv where
 d:D
 l:List Int
 ok:FLs 1 encZ d l
def Crv.enc (c:Crv):List D:=[c.d]
def RightI (l:List Int):Prop:=l.length≤60∧∀v∈l,0≤v∧v≤1099511627776
def priceF (l:List Int) (left:Int):Int:=if left<1 then -1 else if (l.length:Int)<left then 0 else l.getD (left-1).toNat 0
def costF (t:Int):List (Crv×Int)→Int
 | []=>0
 |p::ps=>priceF p.1.l (p.2-t)+costF t ps
def accF (ps:List (Crv×Int)) (v t:Int):Bool:=(ps.all fun p=>decide (t<p.2)) && decide (costF t ps≤v)
def cntF (p:Nat→Bool):Nat→Nat→Nat
 |n,0=>n
 |n,k+1=>if p n=true then cntF p (n+1) k else n
def seatsF (ps:List (Crv×Int)) (v most:Int):Nat:=cntF (fun n=>accF ps v n) 0 (min most 999).toNat

/-! ### The machine -/
def PsOk (ps:List (Crv×Int)):Prop:=ps.length≤6∧∀p∈ps,RightI p.1.l∧ -10000≤p.2∧p.2≤10000
def pairsF (s:Stk) (cs:List Crv) (ids:List Lid) (cl:ByteArray):List (Crv×Int):=cs.zip (ids.map fun id=>s.free id cl)
def bidF (s:Stk) (cs:List Crv) (ids:List Lid) (cl:ByteArray) (v:Int):Int:=if usF s ids=true∧cs.length=ids.length then seatsF (pairsF s cs ids cl) v (openF s ids cl) else 0
section
variable {S : List Ob} {lab : Lab} {o k m n : Nat} {s : Stk} {ps : List (D × D)} {ids : List Lid} {cs : List Crv}
end
set_option linter.unusedSimpArgs false

def okAt (l:List Int) (i:Nat):Bool:=decide (0≤l.getD i 0) && decide (l.getD i 0≤1099511627776) && (decide (i=0) || decide (l.getD i 0≤l.getD (i-1) 0))
def rightV (l:List Int):Bool:=(List.range l.length).all (okAt l)
def crvB (c:Crv):Bool:=decide (c.l.length≤60) && rightV c.l
def rightB18 (cs:List Crv) (v:Int):Bool:=decide (cs.length≤6) && decide (0≤v) && decide (v≤1099511627776) && cs.all crvB
/-! ### Legs -/
def encU (k:Nat):List D:=[.int .u8 k]
def legsF (l:List Nat):List Lid:=(l.take 6).map idF
end Go.Proofs.YtkemehicndccmaaGreatDoor.Dm
