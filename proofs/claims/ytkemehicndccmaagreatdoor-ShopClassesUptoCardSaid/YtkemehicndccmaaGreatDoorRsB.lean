/-
  The reference's inventory: the errors of a list of legs, sales and cancellations.
-/
import Derived.Test.YtkemehicndccmaaGreatDoorRsA
set_option linter.unusedSimpArgs false
set_option linter.unusedVariables false
namespace Go.Proofs.YtkemehicndccmaaGreatDoor.Dm
open Go Gw
set_option linter.unusedSimpArgs false
set_option linter.unusedSimpArgs false

section
variable {S : List Ob} {lab : Lab} {o k n : Nat} {s : Stk} {rd : D} {rows : List RRow} {id : Lid} {ids : List Lid}
theorem wl_mono {E:Env} {call:Call} {n:Nat} {c:Code} {a:List D} {S:List Ob} {Q Q':PostX} (h:WL E call n c a S Q) (hq:∀x a S,Q x a S→Q' x a S):WL E call n c a S Q':=wc_mono h hq
set_option maxHeartbeats 8000000 in
set_option maxRecDepth 100000 in
theorem rnamed_c (hn:190≤n) (h:RefAt S lab o s k rd rows) (ok:StkOk 9999 s) (hrl:rows.length≤100) (hls:s.l.length≤100) (hl:ids.length≤20) {di:D} (hdi:FLs 4 Lid.enc di ids) (cl:ByteArray) (w:Int) (sale:Bool) (st:Bool):
  callD E (dcall E n) st S 61 [.loc k 0 0,di,.str cl,.int .i64 w,.bool sale]=some (.int .i64 (s.named ids cl w sale),S):=by
 obtain⟨q,rfl⟩:∃q,n=q+1:=⟨n-1,by omega⟩
 have cm:=rmade_c (n:=q) (by omega) h
 have ca:=fun id=>rat_c (n:=q) (id:=id) (by omega) h hrl
 have hk:=h.row
 have:WO (dcall E (q+1) 61 [.loc k 0 0,di,.str cl,.int .i64 w,.bool sale] S) fun r T=>r=.int .i64 (s.named ids cl w sale)∧T=S:=by
  refine wo_dcall Tryz.func61 rfl (by decide) rfl 106 rfl (fun a hal ha=>?_)
  have h0:a[0]? =some (.loc k 0 0):=ha 0 (by simp)
  have h1:a[1]? =some (di):=ha 1 (by simp)
  have h2:a[2]? =some (.str cl):=ha 2 (by simp)
  have h3:a[3]? =some (.int .i64 w):=ha 3 (by simp)
  have h4:a[4]? =some (.bool sale):=ha 4 (by simp)
  clear ha
  by_cases b1:w<1
  ·rw[named_arg (.inl b1)]
   rcases hdi with ⟨rfl,rfl⟩ | ⟨x,rfl⟩
   ·simp(maxSteps:=1000000)(disch:=omega)only[push_cast,hal,h0,h3,cm,b1,dUn,Tryz.f61,↓WX,simprocAttr]
   ·simp(maxSteps:=1000000)(disch:=omega)only[push_cast,hal,h0,h3,cm,b1,dUn,Tryz.f61,↓WX,simprocAttr]
  by_cases b2:ids=[]
  ·rw[named_arg (.inr b2)]
   subst b2
   rcases hdi with ⟨rfl,-⟩ | ⟨x,rfl⟩
   ·simp(maxSteps:=1000000)(disch:=omega)only[push_cast,hal,h0,h1,h3,cm,b1,dUn,Tryz.f61,↓WX,simprocAttr]
   ·simp(maxSteps:=1000000)(disch:=omega)only[push_cast,hal,h0,h1,h3,cm,b1,dUn,Int.natCast_zero,Tryz.f61,↓WX,simprocAttr]
  have b0:¬(w<1∨ids=[]):=by rintro (h |h);exact b1 h;exact b2 h
  obtain⟨x,rfl⟩:∃x,di=.sl 4 (ids.map Lid.enc) x:=by
   rcases hdi with ⟨-,e⟩ |h
   ·exact absurd e b2
   ·exact h
  have b3:¬(ids.length:Int)=0:=fun e=>b2 (List.eq_nil_of_length_eq_zero (by omega))
  simp(maxSteps:=1000000)(disch:=omega)only[push_cast,hal,h0,h1,h3,cm,b1,b3,dUn,↓WX,simprocAttr]
  refine wl_loop (fun i a T=>T=S∧a.length=106∧a[0]? =some (.loc k 0 0)∧a[1]? =some (.sl 4 (ids.map Lid.enc) x)∧a[2]? =some (.str cl)∧a[4]? =some (.bool sale)∧a[11]? =some (.int .i64 i)∧(ids.take i).Nodup) ids.length ?_ (by omega) ?_
  ·simp(maxSteps:=1000000)(disch:=omega)only[push_cast,hal,h0,h1,h2,h4,Int.natCast_zero,List.take_zero,List.nodup_nil,simprocAttr]
  clear hal h0 h1 h2 h3 h4 a
  rintro i a T hi ⟨rfl,hal,h0,h1,h2,h4,h11,hnd⟩
  rcases Nat.lt_or_eq_of_le hi with hlt |rfl
  ·obtain⟨id,hq⟩:∃id,ids[i]? =some id:=⟨ids[i],by simp⟩
   have hltc:(i:Int)<ids.length:=by omega
   simp(maxSteps:=1000000)(disch:=omega)only[push_cast,hal,h1,h11,hltc,↓WX,simprocAttr]
   refine wl_loop (fun j a U=>U=T∧a.length=106∧a[0]? =some (.loc k 0 0)∧a[1]? =some (.sl 4 (ids.map Lid.enc) x)∧a[2]? =some (.str cl)∧a[4]? =some (.bool sale)∧a[11]? =some (.int .i64 i)∧a[12]? =some (.int .i64 j)∧∀k,k<j→ids[k]? ≠some id) i ?_ (by omega) ?_
   ·simp(maxSteps:=1000000)(disch:=omega)only[push_cast,ne_eq,hal,h0,h1,h2,h4,h11,Int.natCast_zero,simprocAttr]
    exact fun k hk=>by omega
   clear hal h0 h1 h2 h4 h11 a
   rintro j a U hj ⟨rfl,hal,h0,h1,h2,h4,h11,h12,hne⟩
   rcases Nat.lt_or_eq_of_le hj with hlj |rfl
   case inr=>
    simp(maxSteps:=1000000)(disch:=omega)only[push_cast,ne_eq,hal,h0,h1,h2,h4,h11,h12,Int.lt_irrefl,hlt,wrap_ok,Int.natCast_add,Int.natCast_one,↓WX,simprocAttr]
    exact take_nodup hnd hq hne
   have hljc:(j:Int)<i:=by omega
   obtain⟨id',hq'⟩:∃id',ids[j]? =some id':=⟨ids[j]'(by omega),by simp⟩
   have he:=eq_lid id id'
   have hpl:=plain_lid
   by_cases e:id=id'
   ·subst e
    rw[named_twice b0 (dup_of hlj hq' hq)]
    rw[decide_eq_true rfl]at he
    simp only[Lid.enc]at he
    simp(maxSteps:=1000000)(disch:=omega)only[push_cast,ne_eq,hal,h1,h11,h12,hljc,hq,hq',he,hpl,Lid.enc,Tryz.f61,↓WX,simprocAttr]
   ·rw[decide_eq_false e]at he
    simp only[Lid.enc]at he
    simp(maxSteps:=1000000)(disch:=omega)only[push_cast,ne_eq,hal,h0,h1,h2,h4,h11,h12,hlj,hljc,hq,hq',he,hpl,Lid.enc,wrap_ok,Int.natCast_add,Int.natCast_one,↓WX,simprocAttr]
    intro k' hk'
    by_cases ek:k'=j
    ·subst ek
     rw[hq']
     intro e'
     exact e (Option.some.inj e').symm
    ·exact hne k' (by omega)
  rw[List.take_length]at hnd
  simp(maxSteps:=1000000)(disch:=omega)only[push_cast,hal,h1,h11,Int.lt_irrefl,↓WX,simprocAttr]
  refine wl_loop (fun i a U=>U=T∧a.length=106∧a[0]? =some (.loc k 0 0)∧a[1]? =some (.sl 4 (ids.map Lid.enc) x)∧a[2]? =some (.str cl)∧a[4]? =some (.bool sale)∧a[13]? =some (.int .i64 i)∧∀j id,j<i→ids[j]? =some id→∃x,s.get id=some x) ids.length ?_ (by omega) ?_
  ·simp(maxSteps:=1000000)(disch:=omega)only[push_cast,hal,h0,h1,h2,h4,Int.natCast_zero,simprocAttr]
   exact fun j id hj=>by omega
  clear hal h0 h1 h2 h4 h11 a
  clear hi
  rintro i a U hi ⟨rfl,hal,h0,h1,h2,h4,h13,hq⟩
  rcases Nat.lt_or_eq_of_le hi with hlt |rfl
  ·obtain⟨id,hid⟩:∃id,ids[i]? =some id:=⟨ids[i],by simp⟩
   have hltc:(i:Int)<ids.length:=by omega
   have ca:=ca id
   simp only[Lid.enc]at ca
   rcases at_rows h id with ⟨g1,g2⟩ | ⟨li,y,d,g1,g2,g3⟩
   ·rw[named_none b0 hnd ⟨id,mem_at hid,g1⟩]
    rw[g2]at ca
    simp(maxSteps:=1000000)(disch:=omega)only[push_cast,hal,h0,h1,h13,hltc,hid,ca,Lid.enc,Tryz.f61,↓WX,simprocAttr]
   ·rw[g2]at ca
    have hnn:¬(li:Int)<0:=by omega
    simp(maxSteps:=1000000)(disch:=omega)only[push_cast,hal,h0,h1,h2,h4,h13,hlt,hltc,hid,ca,hnn,Lid.enc,wrap_ok,Int.natCast_add,Int.natCast_one,↓WX,simprocAttr]
    intro j id' hj hj'
    by_cases e:j=i
    ·subst e
     rw[hid]at hj'
     cases hj'
     exact⟨y,g1⟩
    ·exact hq j id' (by omega) hj'
  have hsome:∀id∈ids,∃y,s.get id=some y:=fun id hid=>by
   obtain⟨j,hj⟩:=List.mem_iff_getElem?.1 hid
   exact hq j id (lt_of_get hj) hj
  simp(maxSteps:=1000000)(disch:=omega)only[push_cast,hal,h1,h13,Int.lt_irrefl,↓WX,simprocAttr]
  refine wl_mono (Q:=fun r a V=>(r=.exit 6∧V=U∧a.length=106∧a[0]? =some (.loc k 0 0)∧a[1]? =some (.sl 4 (ids.map Lid.enc) x)∧a[2]? =some (.str cl)∧(sale=false∨∀id∈ids,∀y,s.get id=some y→y.closed=false))∨(r=.ret∧V=U∧a.length=106∧a[10]? =some (.int .i64 (s.named ids cl w sale)))) ?_ ?_
  ·refine wl_loop (fun i a V=>V=U∧a.length=106∧a[0]? =some (.loc k 0 0)∧a[1]? =some (.sl 4 (ids.map Lid.enc) x)∧a[2]? =some (.str cl)∧a[4]? =some (.bool sale)∧a[14]? =some (.int .i64 i)∧(sale=false→i=0)∧∀j id y,j<i→ids[j]? =some id→s.get id=some y→y.closed=false) ids.length ?_ (by omega) ?_
   ·simp(maxSteps:=1000000)(disch:=omega)only[push_cast,hal,h0,h1,h2,h4,Int.natCast_zero,implies_true,simprocAttr]
    exact fun j id y hj=>by omega
   clear hal h0 h1 h2 h4 h13 a
   clear hi hq
   rintro i a V hi ⟨rfl,hal,h0,h1,h2,h4,h14,hs0,hq⟩
   rcases Nat.lt_or_eq_of_le hi with hlt |rfl
   case inr=>
    simp(maxSteps:=1000000)(disch:=omega)only[push_cast,hal,h0,h1,h2,h14,Int.lt_irrefl,↓WX,simprocAttr]
    refine .inl (.inr fun id hid y hy=>?_)
    obtain⟨j,hj⟩:=List.mem_iff_getElem?.1 hid
    exact hq j id y (lt_of_get hj) hj hy
   have hltc:(i:Int)<ids.length:=by omega
   cases sale
   case false=>
    simp(maxSteps:=1000000)(disch:=omega)only[push_cast,hal,h0,h1,h2,h4,h14,hltc,↓WX,simprocAttr]
    exact .inl (.inl trivial)
   obtain⟨id,hid⟩:∃id,ids[i]? =some id:=⟨ids[i],by simp⟩
   have ca:=ca id
   simp only[Lid.enc]at ca
   rcases at_rows h id with ⟨g1,g2⟩ | ⟨li,y,d,g1,g2,g3⟩
   ·obtain⟨y,hy⟩:=hsome id (mem_at hid)
    rw[g1]at hy;cases hy
   rw[g2]at ca
   obtain⟨r,rfl,-,hr⟩:=h.os g3
   have hli:=lt_of_get g3
   cases hc:y.closed
   ·simp(maxSteps:=1000000)(disch:=omega)only[push_cast,hal,h0,h1,h2,h4,h14,hlt,hltc,hid,ca,hk,hr,hli,g3,hc,Lid.enc,wrap_ok,Int.natCast_add,Int.natCast_one,↓WX,simprocAttr]
    intro j id' y' hj hj' hy'
    by_cases e:j=i
    ·subst e
     rw[hid]at hj'
     cases hj'
     rw[g1]at hy'
     cases hy'
     exact hc
    ·exact hq j id' y' (by omega) hj' hy'
   ·rw[named_state b0 hnd hsome rfl ⟨id,mem_at hid,y,g1,hc⟩]
    simp(maxSteps:=1000000)(disch:=omega)only[push_cast,hal,h0,h1,h2,h4,h14,hltc,hid,ca,hk,hr,hli,g3,hc,Lid.enc,↓WX,simprocAttr]
    exact .inr trivial
  clear hal h0 h1 h2 h4 h13 a
  rintro r a V (⟨rfl,rfl,hal,h0,h1,h2,h3⟩ | ⟨rfl,rfl,hal,h10⟩)
  case inr=>simp(maxSteps:=1000000)(disch:=omega)only[push_cast,h10,Tryz.f61]
  simp(maxSteps:=1000000)(disch:=omega)only[push_cast,↓WX,simprocAttr]
  refine wl_loop (fun i a U=>U=V∧a.length=106∧a[0]? =some (.loc k 0 0)∧a[1]? =some (.sl 4 (ids.map Lid.enc) x)∧a[2]? =some (.str cl)∧a[15]? =some (.int .i64 i)∧∀j id y,j<i→ids[j]? =some id→s.get id=some y→∃q,placeF cl 0 y.cfg.cabs=some q) ids.length ?_ (by omega) ?_
  ·simp(maxSteps:=1000000)(disch:=omega)only[push_cast,hal,h0,h1,h2,Int.natCast_zero,simprocAttr]
   exact fun j id y hj=>by omega
  clear hal h0 h1 h2 a
  clear hi hq
  rintro i a U hi ⟨rfl,hal,h0,h1,h2,h15,hq⟩
  rcases Nat.lt_or_eq_of_le hi with hlt |rfl
  case inr=>
   rw[named_ok b0 hnd hsome h3 fun id hid y hy=>by
    obtain⟨j,hj⟩:=List.mem_iff_getElem?.1 hid
    exact hq j id y (lt_of_get hj) hj hy]
   simp(maxSteps:=1000000)(disch:=omega)only[push_cast,hal,h1,h15,Int.lt_irrefl,Tryz.f61,↓WX,simprocAttr]
  have hltc:(i:Int)<ids.length:=by omega
  obtain⟨id,hid⟩:∃id,ids[i]? =some id:=⟨ids[i],by simp⟩
  have ca:=ca id
  simp only[Lid.enc]at ca
  rcases at_rows h id with ⟨g1,g2⟩ | ⟨li,y,d,g1,g2,g3⟩
  ·obtain⟨y,hy⟩:=hsome id (mem_at hid)
   rw[g1]at hy;cases hy
  rw[g2]at ca
  have hok:=ok.get g1
  have cf:=rconfig_c (n:=q) (by omega) h g3 hok.find hls
  have cp:=rPlace_c (n:=q) (c:=y.cfg) (cl:=cl) (by omega) hok.cfg.sm
  simp only[Cfg.enc]at cf cp
  rcases hpl:placeF cl 0 y.cfg.cabs with _ | ⟨a',b'⟩
  ·rw[named_class b0 hnd hsome h3 ⟨id,mem_at hid,y,g1,hpl⟩]
   rw[hpl]at cp
   simp only[placeD]at cp
   simp(maxSteps:=1000000)(disch:=omega)only[push_cast,hal,h0,h1,h2,h15,hltc,hid,ca,cf,cp,dUn,Lid.enc,Tryz.f61,↓WX,simprocAttr]
  ·rw[hpl]at cp
   simp only[placeD]at cp
   simp(maxSteps:=1000000)(disch:=omega)only[push_cast,hal,h0,h1,h2,h15,hlt,hltc,hid,ca,cf,cp,dUn,Lid.enc,wrap_ok,Int.natCast_add,Int.natCast_one,↓WX,simprocAttr]
   intro j id' y' hj hj' hy'
   by_cases e:j=i
   ·subst e
    rw[hid]at hj'
    cases hj'
    rw[g1]at hy'
    cases hy'
    exact⟨_,hpl⟩
   ·exact hq j id' y' (by omega) hj' hy'
 obtain⟨_,T,ho,rfl,rfl⟩:=this
 exact callD_obs rfl rfl ho rfl
theorem RefAt.put (h:RefAt S lab o s k rd rows) (hf:FreshL S lab) (hnd:(s.legs.map (·.1)).Nodup) {i r a b q:Nat} {x:Leg} {d:D} {cl:ByteArray} {w:Int} {row:List Int} {es:List (List D)} (hw:rows[i]? =some (id,x,d)) (hpl:placeF cl 0 x.cfg.cabs=some (a,b)) (ha:x.sold[a]? =some row)
  (hd:d=.os q 0 x.sold.length false) (hq:S[q]? =some (.row 1 es)) (hes:es[a]? =some [.os r 0 row.length false]) (hlr:lab r=[o,3,i,a]):
  RefAt (S.set r (.row 1 ((row.modify b (· +w)).map encZ))) lab o { s with legs:=updL s.legs id (addL cl w) } k rd (rows.set i (id,addL cl w x,d))∧Step o S lab (S.set r (.row 1 ((row.modify b (· +w)).map encZ))) lab:=by
 have hadd:addL cl w x={ x with sold:=addAt x.sold a b w }:=by unfold addL;rw[hpl]
 have hrk:r≠k:=by rintro rfl;rw[h.labk]at hlr;simp at hlr
 have hrow:rowE (id,addL cl w x,d)=rowE (id,x,d):=by rw[hadd]
 have hmap:(rows.set i (id,addL cl w x,d)).map rowE=rows.map rowE:=by
  rw[List.map_set,hrow]
  have:(rows.map rowE)[i]? =some (rowE (id,x,d)):=by rw[List.getElem?_map,hw];rfl
  refine List.ext_getElem? fun j=>?_
  rw[List.getElem?_set]
  split
  ·rename_i e;subst e
   rw[if_pos (lt_of_get this),this]
  ·rfl
 refine⟨⟨h.labk,by rw[List.getElem?_set_ne hrk];exact h.row,?_,h.own,?_,fun j id' x' d' hj=>?_⟩,Step.set hf _ (by rw[hlr];rfl)⟩
 ·rcases h.gl with ⟨h1,h2⟩ | ⟨r',h1,h2⟩
  ·rw[h2]at hw;simp at hw
  ·have hrr:r≠r':=by
    rintro rfl
    have:=h.own _ _ h1
    rw[this]at hlr;simp at hlr
   exact .inr ⟨r',by rw[List.length_set];exact h1,by rw[hmap,List.getElem?_set_ne hrr];exact h2⟩
 ·have hl:=h.legs
  rw[←hl]at hnd
  show _=updL s.legs id (addL cl w)
  rw[←hl]
  exact upd_rows hnd hw
 ·rw[List.getElem?_set]at hj
  split at hj
  ·rename_i e;subst e
   rw[if_pos (lt_of_get hw)]at hj
   cases hj
   rw[hadd]
   exact (h.tab i id x d hw).add (n:=w) ha hlr ⟨q,es,hd,hq,hes⟩
  ·rename_i e
   refine (h.tab j id' x' d' hj).keep fun y ob tl hy hly=>⟨?_,rfl⟩
   rw[List.getElem?_set_ne]
   ·exact hy
   ·rintro rfl
    rw[hlr]at hly
    rcases hly with hly | ⟨z,hly⟩
    ·simp at hly
    ·simp at hly
     exact e hly.1
def SellI (S:List Ob) (lab:Lab) (o k:Nat) (s:Stk) (ids:List Lid) (cl:ByteArray) (w:Int) (i:Nat) (U:List Ob):Prop:=
 Step o S lab U lab∧∃rd rows legs,RefAt U lab o { s with legs:=legs } k rd rows∧legs.map (·.1)=s.legs.map (·.1)∧legs.length=s.legs.length∧addIds cl w ids s.legs=addIds cl w (ids.drop i) legs∧∀(j:Nat) (id:Lid),i≤j→ids[j]? =some id→getL legs id=getL s.legs id
theorem SellI.start (h:RefAt S lab o s k rd rows) (hf:FreshL S lab) (cl:ByteArray) (w:Int):SellI S lab o k s ids cl w 0 S:=
 ⟨Step.refl hf,rd,rows,s.legs,h,rfl,rfl,by rw[List.drop_zero],fun _ _ _ _=>rfl⟩
theorem SellI.at {U:List Ob} {cl:ByteArray} {w:Int} {i:Nat} (h:SellI S lab o k s ids cl w i U) (ok:StkOk 9999 s) (hnd:ids.Nodup) (hall:∀id∈ids,∃x q,s.get id=some x∧placeF cl 0 x.cfg.cabs=some q) (hid:ids[i]? =some id):
  ∃(rd:D) (rows:List RRow) (legs:List (Lid×Leg)) (li:Nat) (x:Leg) (rr a b q r:Nat) (row:List Int) (es:List (List D)) (v:Int),RefAt U lab o { s with legs:=legs } k rd rows∧rows.length=s.legs.length∧s.get id=some x∧placeF cl 0 x.cfg.cabs=some (a,b)∧atF id 0 rows=li∧
   rows[li]? =some (id,x,.os q 0 x.sold.length false)∧rd=.os rr 0 rows.length false∧U[rr]? =some (.row 7 (rows.map rowE))∧U[q]? =some (.row 1 es)∧es[a]? =some [.os r 0 row.length false]∧U[r]? =some (.row 1 (row.map encZ))∧row[b]? =some v∧x.sold[a]? =some row∧
   SellI S lab o k s ids cl w (i+1) (U.set r (.row 1 ((row.modify b (· +w)).map encZ))):=by
 obtain⟨hst,rd,rows,legs,hU,hfst,hlen,hadd,hold⟩:=h
 obtain⟨x,⟨a,b⟩,hx,hpl⟩:=hall id (List.mem_of_getElem? hid)
 have hgl:getL legs id=some x:=(hold i id (Nat.le_refl _) hid).trans hx
 rcases at_rows hU id with ⟨g1,-⟩ | ⟨li,y,d,g1,g2,g3⟩
 ·rw[show ({ s with legs:=legs }:Stk).get id=getL legs id from rfl,hgl]at g1;cases g1
 rw[show ({ s with legs:=legs }:Stk).get id=getL legs id from rfl,hgl]at g1
 cases g1
 obtain⟨rr,hrd,-,hrr⟩:=hU.os g3
 obtain⟨y,row,z,v,e1,e2,e3,e4,e5,e6,e7⟩:=(ok.get hx).at_ hpl
 obtain⟨q,f,es,rfl,hq1,hq2,hq3,hq4⟩:=hU.tab li id x d g3
 obtain⟨f1,f2,f3⟩:=hq4 a row e2
 have hrl:rows.length=legs.length:=by
  have:=congrArg List.length hU.legs
  simpa using this
 have hndL:(legs.map (·.1)).Nodup:=by rw[hfst];exact ok.ids
 obtain⟨p1,p2⟩:=hU.put (w:=w) hst.fresh hndL g3 hpl e2 rfl hq2 f1 f2
 refine⟨rd,rows,legs,li,x,rr,a,b,q,f a,row,es,v,hU,hrl.trans hlen,hx,hpl,g2,g3,hrd,hrr,hq2,f1,f3,e5,e2,hst.trans p2,_,_,_,p1,by rw[updL_ids,hfst],by rw[updL_len,hlen],by rw[hadd,drop_at hid,addIds],fun j id' hj h1=>?_⟩
 have hne:id'≠id:=fun e=>by
  subst e
  exact dup_of (by omega) hid h1 hnd
 rw[getL_upd,if_neg hne]
 exact hold j id' (by omega) h1
theorem SellI.done {U:List Ob} {cl:ByteArray} {w:Int} (h:SellI S lab o k s ids cl w ids.length U):RAt U lab o k { s with legs:=addIds cl w ids s.legs }∧Step o S lab U lab:=by
 obtain⟨hst,rd,rows,legs,hU,-,-,hadd,-⟩:=h
 rw[List.drop_length]at hadd
 have:addIds cl w ids s.legs=legs:=hadd
 rw[this]
 exact⟨⟨hst.fresh,rd,rows,hU⟩,hst⟩
theorem named_closed {cl:ByteArray} {w:Int} (h:s.named ids cl w true=0):∀id∈ids,∀x,s.get id=some x→x.closed=false:=by
 intro id hid x hx
 unfold Stk.named at h
 split at h
 ·simp at h
 split at h
 ·simp at h
 split at h
 ·simp at h
 split at h
 ·simp at h
 rename_i h4
 rw[Bool.true_and,Bool.not_eq_true,List.any_eq_false]at h4
 have:=h4 id hid
 rw[hx]at this
 simpa using this
theorem left_open {cl:ByteArray} {w:Int} (h:s.named ids cl w true=0):ids.any (fun id=>decide (((s.get id).map (leftF · cl)).getD 0<w))=ids.any fun id=>decide (s.left id cl<w):=by
 obtain⟨-,-,-,n4⟩:=named_inv h
 have n5:=named_closed h
 have key:∀id∈ids,((s.get id).map (leftF · cl)).getD 0=s.left id cl:=fun id hid=>by
  obtain⟨x,q,hx,-⟩:=n4 id hid
  have:=n5 id hid x hx
  unfold Stk.left
  rw[hx]
  simp[this]
 rw[Bool.eq_iff_iff,List.any_eq_true,List.any_eq_true]
 constructor
 ·rintro⟨id,hid,hb⟩
  exact⟨id,hid,by rw[←key id hid];exact hb⟩
 ·rintro⟨id,hid,hb⟩
  exact⟨id,hid,by rw[key id hid];exact hb⟩
set_option maxHeartbeats 8000000 in
set_option maxRecDepth 100000 in
theorem rSell_d (hn:210≤n) (h:RAt S lab o k s) (ok:StkOk 9999 s) (hll:s.legs.length≤100) (hls:s.l.length≤100) (hl:ids.length≤20) {di:D} (hdi:FLs 4 Lid.enc di ids) (cl:ByteArray) (w:Int):
  WO (dcall E (n+1) 24 [.loc k 0 0,di,.str cl,.int .i64 w] S) fun r T=>r=.int .i64 (s.sell ids cl w).1∧∃lab',RAt T lab' o k (s.sell ids cl w).2∧Step o S lab T lab':=by
 obtain⟨hf,rd,rows,h⟩:=h
 have hrl:rows.length≤100:=by rw[←h.legs,List.length_map]at hll;exact hll
 have cn:=rnamed_c (n:=n) (by omega) h ok hrl hls hl hdi cl w true
 refine wo_dcall Tryz.func24 rfl (by decide) rfl 89 rfl (fun a hal ha=>?_)
 have h0:a[0]? =some (.loc k 0 0):=ha 0 (by simp)
 have h1:a[1]? =some (di):=ha 1 (by simp)
 have h2:a[2]? =some (.str cl):=ha 2 (by simp)
 have h3:a[3]? =some (.int .i64 w):=ha 3 (by simp)
 clear ha
 unfold Stk.sell
 by_cases e0:s.named ids cl w true=0
 case neg=>
  rw[if_pos e0]
  simp(maxSteps:=1000000)(disch:=omega)only[push_cast,not_false_eq_true,hal,h0,h1,h2,h3,cn,e0,Tryz.f24,↓WX,simprocAttr]
  exact⟨lab,⟨hf,rd,rows,h⟩,Step.refl hf⟩
 rw[if_neg (by simpa using e0)]
 rw[e0]at cn
 obtain⟨hw1,hne,hnd,hall⟩:=named_inv e0
 rw[left_open e0]
 obtain⟨x,rfl⟩:∃x,di=.sl 4 (ids.map Lid.enc) x:=by
  rcases hdi with ⟨-,e⟩ |h
  ·exact absurd e hne
  ·exact h
 have cl':=fun id=>rLeft_c (n:=n) (id:=id) (by omega) h ok hrl hls cl
 simp(maxSteps:=1000000)(disch:=omega)only[push_cast,not_true_eq_false,hal,h0,h1,h2,h3,cn,↓WX,simprocAttr]
 refine wl_mono (Q:=fun r a V=>(r=.exit 0∧V=S∧a.length=89∧a[0]? =some (.loc k 0 0)∧a[1]? =some (.sl 4 (ids.map Lid.enc) x)∧a[2]? =some (.str cl)∧a[3]? =some (.int .i64 w)∧ids.any (fun id=>decide (s.left id cl<w))=false)∨(r=.ret∧V=S∧a.length=89∧a[8]? =some (.int .i64 17)∧ids.any (fun id=>decide (s.left id cl<w))=true)) ?_ ?_
 ·refine wl_loop (fun i a V=>V=S∧a.length=89∧a[0]? =some (.loc k 0 0)∧a[1]? =some (.sl 4 (ids.map Lid.enc) x)∧a[2]? =some (.str cl)∧a[3]? =some (.int .i64 w)∧a[10]? =some (.int .i64 i)∧∀j id,j<i→ids[j]? =some id→¬s.left id cl<w) ids.length ?_ (by omega) ?_
  ·simp(maxSteps:=1000000)(disch:=omega)only[push_cast,hal,h0,h1,h2,h3,Int.natCast_zero,simprocAttr]
   exact fun j id hj=>by omega
  clear hal h0 h1 h2 h3 a
  rintro i a V hi ⟨rfl,hal,h0,h1,h2,h3,h10,hq⟩
  rcases Nat.lt_or_eq_of_le hi with hlt |rfl
  case inr=>
   have hany:ids.any (fun id=>decide (s.left id cl<w))=false:=by
    rw[List.any_eq_false]
    intro id hid
    obtain⟨j,hj⟩:=List.mem_iff_getElem?.1 hid
    simpa using hq j id (lt_of_get hj) hj
   simp(maxSteps:=1000000)(disch:=omega)only[push_cast,hal,h0,h1,h2,h3,h10,Int.lt_irrefl,hany,↓WX,simprocAttr]
   exact .inl trivial
  have hltc:(i:Int)<ids.length:=by omega
  obtain⟨id,hid⟩:∃id,ids[i]? =some id:=⟨ids[i],by simp⟩
  have cl':=cl' id
  simp only[Lid.enc]at cl'
  by_cases hlw:s.left id cl<w
  ·have hany:ids.any (fun id=>decide (s.left id cl<w))=true:=by
    rw[List.any_eq_true]
    exact⟨id,mem_at hid,decide_eq_true hlw⟩
   simp(maxSteps:=1000000)(disch:=omega)only[push_cast,hal,h0,h1,h2,h3,h10,hltc,hid,cl',hlw,hany,Lid.enc,↓WX,simprocAttr]
   exact .inr trivial
  ·simp(maxSteps:=1000000)(disch:=omega)only[push_cast,hal,h0,h1,h2,h3,h10,hlt,hltc,hid,cl',hlw,Lid.enc,wrap_ok,Int.natCast_add,Int.natCast_one,↓WX,simprocAttr]
   intro j id' hj hj'
   by_cases e:j=i
   ·subst e
    rw[hid]at hj'
    cases hj'
    exact hlw
   ·exact hq j id' (by omega) hj'
 clear hal h0 h1 h2 h3 a
 rintro r a V (⟨rfl,rfl,hal,h0,h1,h2,h3,hany⟩ | ⟨rfl,rfl,hal,h8,hany⟩)
 case inr=>
  rw[hany,if_pos rfl]
  simp(maxSteps:=1000000)(disch:=omega)only[push_cast,h8,Tryz.f24]
  exact⟨lab,⟨hf,rd,rows,h⟩,Step.refl hf⟩
 rw[hany,if_neg (by simp)]
 have hwle:w≤1998:=by
  obtain⟨id,hid⟩:∃id,id∈ids:=by
   cases ids with
   |nil=>exact absurd rfl hne
   |cons a l=>exact⟨a,by simp⟩
  rw[List.any_eq_false]at hany
  have:=hany id hid
  have h2:=left_le ok id cl
  simp at this
  omega
 simp(maxSteps:=1000000)(disch:=omega)only[push_cast,↓WX,simprocAttr]
 refine wl_loop (fun i a U=>a.length=89∧a[0]? =some (.loc k 0 0)∧a[1]? =some (.sl 4 (ids.map Lid.enc) x)∧a[2]? =some (.str cl)∧a[3]? =some (.int .i64 w)∧a[11]? =some (.int .i64 i)∧SellI V lab o k s ids cl w i U) ids.length ?_ (by omega) ?_
 ·simp(maxSteps:=1000000)(disch:=omega)only[push_cast,hal,h0,h1,h2,h3,Int.natCast_zero,simprocAttr]
  exact SellI.start h hf cl w
 clear hal h0 h1 h2 h3 a
 rintro i a U hi ⟨hal,h0,h1,h2,h3,h11,hI⟩
 rcases Nat.lt_or_eq_of_le hi with hlt |rfl
 case inr=>
  obtain⟨f1,f2⟩:=hI.done
  simp(maxSteps:=1000000)(disch:=omega)only[push_cast,hal,h1,h11,Int.lt_irrefl,Tryz.f24,↓WX,simprocAttr]
  exact⟨lab,f1,f2⟩
 have hltc:(i:Int)<ids.length:=by omega
 obtain⟨id,hid⟩:∃id,ids[i]? =some id:=⟨ids[i],by simp⟩
 obtain⟨rd',rows',legs,li,y,rr,a',b',q,r,row,es,v,hU,hrl',hgy,hpl,hat,hrw,rfl,hrr,hqq,hes,hr3,hv,hsa,hnext⟩:=hI.at ok hnd hall hid
 have hok:=ok.get hgy
 have ca:=rat_c (n:=n) (id:=id) (by omega) hU (by omega)
 rw[hat]at ca
 have cf:=rconfig_c (n:=n) (by omega) hU hrw hok.find hls
 have cp:=rPlace_c (n:=n) (c:=y.cfg) (cl:=cl) (by omega) hok.cfg.sm
 rw[hpl]at cp
 simp only[Cfg.enc,placeD]at cf cp
 simp only[Lid.enc]at ca
 have hkU:=hU.row
 have hli:=lt_of_get hrw
 have ha':=lt_of_get hsa
 have hb':=lt_of_get hv
 have hvb:=hok.rng (by omega) hsa v (mem_at hv)
 have hsm:=set_modify (n:=w) hv
 have hlr:=lt_of_get hr3
 simp(maxSteps:=1000000)(disch:=omega)only[push_cast,hal,h0,h1,h2,h3,h11,hlt,hltc,hid,ca,cf,cp,hkU,hrr,hrw,hli,hqq,hes,hr3,hv,ha',hb',hsm,Lid.enc,wrap_ok,Int.natCast_add,Int.natCast_one,↓WX,simprocAttr]
 exact hnext
end
end Go.Proofs.YtkemehicndccmaaGreatDoor.Dm
