/-
  Configurations, identifiers of legs, and calls as plain data.
  The inventory of seats as plain data: configurations, what is left in a class, calls.
  The inventory of seats as plain data: what calls keep, and that exactly what is left can be sold.
-/
import Derived.Test.YtkemehicndccmaaGreatDoorGw
set_option linter.unusedSimpArgs false
set_option linter.unusedVariables false
namespace Go.Proofs.YtkemehicndccmaaGreatDoor.Dm
open Go Gw
set_option linter.unusedSimpArgs false

structure Cls where
 code:ByteArray
 prot:Int
def Cls.enc (r:Cls):List D:=[.str r.code,.int .i64 r.prot]
structure Cab where
 name:ByteArray
 seats:Int
 over:Int
 cls:List Cls
 clsx:Bool
def Cab.enc (r:Cab):List D:=[.str r.name,.int .i64 r.seats,.int .i64 r.over,.sl 2 (r.cls.map Cls.enc) r.clsx]
structure Cfg where
 equip:ByteArray
 cabs:List Cab
 cabsx:Bool
def Cfg.enc (r:Cfg):List D:=[.str r.equip,.sl 4 (r.cabs.map Cab.enc) r.cabsx]
structure Lid where
 c:ByteArray
 n:Int
 d:Int
 f:ByteArray
 deriving DecidableEq
def Lid.enc (r:Lid):List D:=[.str r.c,.int .i64 r.n,.int .i64 r.d,.str r.f]
structure Axn where
 kind:Int
 leg:Int
 more:Int
 eq:Int
 cl:Int
 n:Int
def Axn.enc (r:Axn):List D:=[.int .u8 r.kind,.int .u8 r.leg,.int .u8 r.more,.int .u8 r.eq,.int .u8 r.cl,.int .i8 r.n]
theorem Cls_pure (r:Cls):pureL r.enc=true:=by
 simp only[D.pure,pureL_cons,pureL_nil,Bool.and_self,Cls.enc]
theorem Clss_pure (l:List Cls):pureLL (l.map Cls.enc)=true:=by
 induction l with
 |nil=>rfl
 |cons f fs ih=>rw[List.map_cons,pureLL_cons,ih,Cls_pure];rfl
theorem Cab_pure (r:Cab):pureL r.enc=true:=by
 simp only[D.pure,pureL_cons,pureL_nil,Bool.and_self,Cab.enc,Clss_pure]
theorem Cabs_pure (l:List Cab):pureLL (l.map Cab.enc)=true:=by
 induction l with
 |nil=>rfl
 |cons f fs ih=>rw[List.map_cons,pureLL_cons,ih,Cab_pure];rfl
theorem Cfg_pure (r:Cfg):pureL r.enc=true:=by
 simp only[D.pure,pureL_cons,pureL_nil,Bool.and_self,Cfg.enc,Cabs_pure]
theorem Cfgs_pure (l:List Cfg):pureLL (l.map Cfg.enc)=true:=by
 induction l with
 |nil=>rfl
 |cons f fs ih=>rw[List.map_cons,pureLL_cons,ih,Cfg_pure];rfl
def Cls.Ok (r:Cls):Prop:=r.code.size≤9223372036854775807∧(-9223372036854775808≤r.prot∧r.prot≤9223372036854775807)∧True
def Cab.Ok (r:Cab):Prop:=r.name.size≤9223372036854775807∧(-9223372036854775808≤r.seats∧r.seats≤9223372036854775807)∧(-9223372036854775808≤r.over∧r.over≤9223372036854775807)∧((∀e∈r.cls,e.Ok)∧r.cls.length≤9223372036854775807)∧True
def Cfg.Ok (r:Cfg):Prop:=r.equip.size≤9223372036854775807∧((∀e∈r.cabs,e.Ok)∧r.cabs.length≤9223372036854775807)∧True
def Lid.Ok (r:Lid):Prop:=r.c.size≤9223372036854775807∧(-9223372036854775808≤r.n∧r.n≤9223372036854775807)∧(-9223372036854775808≤r.d∧r.d≤9223372036854775807)∧r.f.size≤9223372036854775807∧True
def Axn.Ok (r:Axn):Prop:=(0≤r.kind∧r.kind≤255)∧(0≤r.leg∧r.leg≤255)∧(0≤r.more∧r.more≤255)∧(0≤r.eq∧r.eq≤255)∧(0≤r.cl∧r.cl≤255)∧(-128≤r.n∧r.n≤127)∧True

theorem ba_eq_iff (x y:ByteArray):x.data.toList=y.data.toList↔x=y:=by
 constructor
 ·intro h
  cases x;cases y
  simpa using h
 ·rintro rfl;rfl
theorem str_eq (x y:ByteArray):(x.toList == y.toList)=decide (x=y):=by
 rw[Bool.eq_iff_iff,beq_iff_eq,decide_eq_true_eq,ByteArray.toList_eq,ByteArray.toList_eq,ba_eq_iff]
theorem str_eq' (x y:ByteArray):(x == y)=decide (x=y):=by
 obtain⟨x⟩:=x
 obtain⟨y⟩:=y
 rw[Bool.eq_iff_iff,decide_eq_true_eq]
 show ((x == y)=true)↔_
 rw[beq_iff_eq,ByteArray.mk.injEq]

/-! ### Configurations -/
def rankF (cl:ByteArray):Nat→List Cls→Option Nat
 |_,[]=>none
 |k,z::l=>if z.code=cl then some k else rankF cl (k+1) l
def placeF (cl:ByteArray):Nat→List Cab→Option (Nat×Nat)
 |_,[]=>none
 |i,y::l=>match rankF cl 0 y.cls with
  |some k=>some (i,k)
  |none=>placeF cl (i+1) l
def findF (l:List Cfg) (e:ByteArray):Option Cfg:=l.find? fun x=>decide (x.equip=e)
def autF (c:Cab):Int:=c.seats+c.over
def limF (c:Cab) (i:Nat):Int:=match i with
 |0=>autF c
 |i+1=>autF c-((c.cls[i]?).map (·.prot)).getD 0
def spF (c:Cab) (sold:List Int) (i:Nat):Int:=limF c i-(sold.drop i).sum
def avF (c:Cab) (sold:List Int):Nat→Int
 |0=>spF c sold 0
 |i+1=>min (avF c sold i) (spF c sold (i+1))
def excF (c:Cab) (sold:List Int):Nat→Int
 |0=>0
 |i+1=>max (excF c sold i) (-(spF c sold i))
def likeF (a b:List Cab) (cl:ByteArray):Option ByteArray:=
 match placeF cl 0 a with
 |none=>none
 |some (i,_)=>match placeF cl 0 b with
  |some _=>some cl
  |none=>match b[min i (b.length-1)]? with
   |none=>none
   |some y=>(y.cls.getLast?).map (·.code)

/-! ### Legs -/
structure Leg where
 cfg:Cfg
 closed:Bool
 sold:List (List Int)
structure Stk where
 l:List Cfg
 x:Bool
 legs:List (Lid×Leg)
def getL (legs:List (Lid×Leg)) (id:Lid):Option Leg:=(legs.find? fun p=>decide (p.1=id)).map (·.2)
def updL (legs:List (Lid×Leg)) (id:Lid) (f:Leg→Leg):List (Lid×Leg):=legs.map fun p=>if p.1=id then (p.1,f p.2) else p
def addAt (t:List (List Int)) (i k:Nat) (n:Int):List (List Int):=t.modify i fun r=>r.modify k (· +n)
def soldAt (t:List (List Int)) (i k:Nat):Int:=((t[i]?).bind (·[k]?)).getD 0
def emptyF (c:Cfg):List (List Int):=c.cabs.map fun y=>List.replicate y.cls.length 0
def leftF (x:Leg) (cl:ByteArray):Int:=match placeF cl 0 x.cfg.cabs with
 |none=>0
 |some (i,k)=>match x.cfg.cabs[i]?,x.sold[i]? with
  |some y,some r=>max 0 (avF y r k)
  |_,_=>0
def Stk.get (s:Stk) (id:Lid):Option Leg:=getL s.legs id
def Stk.left (s:Stk) (id:Lid) (cl:ByteArray):Int:=match s.get id with
 |none=>0
 |some x=>if x.closed then 0 else leftF x cl
def freeF (x:Leg) (cl:ByteArray):Int:=match placeF cl 0 x.cfg.cabs with
 |none=>0
 |some (i,_)=>match x.cfg.cabs[i]?,x.sold[i]? with
  |some y,some r=>max (autF y-r.sum) 0
  |_,_=>0
def Stk.free (s:Stk) (id:Lid) (cl:ByteArray):Int:=match s.get id with
 |none=>0
 |some x=>freeF x cl
def Stk.named (s:Stk) (ids:List Lid) (cl:ByteArray) (n:Int) (sale:Bool):Int:=
 if n<1∨ids=[] then 2
 else if ¬ids.Nodup then 6
 else if ids.any (fun id=>(s.get id).isNone) then 7
 else if sale && ids.any (fun id=>((s.get id).map (·.closed)).getD false) then 10
 else if ids.any (fun id=>((s.get id).bind fun x=>placeF cl 0 x.cfg.cabs).isNone) then 16
 else 0
def addL (cl:ByteArray) (n:Int) (x:Leg):Leg:=match placeF cl 0 x.cfg.cabs with
 |none=>x
 |some (i,k)=>{ x with sold:=addAt x.sold i k n }
def addIds (cl:ByteArray) (n:Int):List Lid→List (Lid×Leg)→List (Lid×Leg)
 | [],legs=>legs
 |id::ids,legs=>addIds cl n ids (updL legs id (addL cl n))
def Stk.sell (s:Stk) (ids:List Lid) (cl:ByteArray) (n:Int):Int×Stk:=
 if s.named ids cl n true≠0 then (s.named ids cl n true,s)
 else if ids.any (fun id=>decide (((s.get id).map (leftF · cl)).getD 0<n)) then (17,s)
 else (0,{ s with legs:=addIds cl n ids s.legs })
def soldF (x:Leg) (cl:ByteArray):Int:=match placeF cl 0 x.cfg.cabs with
 |none=>0
 |some (i,k)=>soldAt x.sold i k
def Stk.cancel (s:Stk) (ids:List Lid) (cl:ByteArray) (n:Int):Int×Stk:=
 if s.named ids cl n false≠0 then (s.named ids cl n false,s)
 else if ids.any (fun id=>decide (((s.get id).map (soldF · cl)).getD 0<n)) then (2,s)
 else (0,{ s with legs:=addIds cl (-n) ids s.legs })
def Stk.open (s:Stk) (id:Lid) (e:ByteArray):Int×Stk:=
 if (s.get id).isSome then (6,s) else match findF s.l e with
  |none=>(7,s)
  |some c=>(0,{ s with legs:=s.legs++[(id,⟨c,false,emptyF c⟩)] })
def Stk.close (s:Stk) (id:Lid):Int×Stk:=
 match s.get id with
 |none=>(7,s)
 |some x=>if x.closed then (10,s) else (0,{ s with legs:=updL s.legs id fun x=>{ x with closed:=true } })
def slJ (c:Nat) (y:Cab):Nat→List (Nat×Nat×Cls)
 |0=>[]
 |j+1=>slJ c y j++match y.cls[j]? with
  |some z=>[(c,j,z)]
  |none=>[]
def slC (cabs:List Cab):Nat→List (Nat×Nat×Cls)
 |0=>[]
 |c+1=>slC cabs c++match cabs[c]? with
  |some y=>slJ c y y.cls.length
  |none=>[]
def slotsF (c:Cfg):List (Nat×Nat×Cls):=slC c.cabs c.cabs.length
def toF (a b:Cfg) (cl:ByteArray):Nat×Nat:=(placeF ((likeF a.cabs b.cabs cl).getD (ByteArray.mk #[])) 0 b.cabs).getD (0,0)
def moveF (a b:Cfg) (old:List (List Int)) (t:List (List Int)) (q:Nat×Nat×Cls):List (List Int):=addAt t (toF a b q.2.2.code).1 (toF a b q.2.2.code).2 (soldAt old q.1 q.2.1)
def resizeF (x:Leg) (b:Cfg):Leg:={ x with cfg:=b,sold:=(slotsF x.cfg).foldl (moveF x.cfg b x.sold) (emptyF b) }
def Stk.resize (s:Stk) (id:Lid) (e:ByteArray):Int×Stk:=
 match s.get id,findF s.l e with
 |some _,some b=>(0,{ s with legs:=updL s.legs id (resizeF · b) })
 |_,_=>(7,s)
def countsF (x:Leg):List (ByteArray×Int):=(slotsF x.cfg).map fun q=>(q.2.2.code,soldAt x.sold q.1 q.2.1)
def Stk.counts (s:Stk) (id:Lid):List (ByteArray×Int):=match s.get id with
 |none=>[]
 |some x=>countsF x
def excL (x:Leg):Int:=(x.cfg.cabs.zip x.sold).foldl (fun m p=>max m (excF p.1 p.2 p.2.length)) 0
def Stk.excess (s:Stk) (id:Lid):Int:=match s.get id with
 |none=>0
 |some x=>excL x
def Stk.equip (s:Stk) (id:Lid):Option ByteArray:=(s.get id).map (·.cfg.equip)

/-! ### Places -/
theorem rankF_spec {cl:ByteArray}:∀ {l:List Cls} {k r:Nat},rankF cl k l=some r→∃j z,r=k+j∧l[j]? =some z∧z.code=cl
 | [],k,r,h=>by cases h
 |z::l,k,r,h=>by
  unfold rankF at h
  split at h
  ·rename_i e
   cases h
   exact⟨0,z,rfl,rfl,e⟩
  ·obtain⟨j,w,h1,h2,h3⟩:=rankF_spec h
   exact⟨j+1,w,by omega,by simpa using h2,h3⟩
theorem placeF_spec {cl:ByteArray}:∀ {l:List Cab} {i a b:Nat},placeF cl i l=some (a,b)→∃j y z,a=i+j∧l[j]? =some y∧y.cls[b]? =some z∧z.code=cl
 | [],i,a,b,h=>by cases h
 |y::l,i,a,b,h=>by
  unfold placeF at h
  split at h
  ·rename_i k hk
   cases h
   obtain⟨j,z,h1,h2,h3⟩:=rankF_spec hk
   exact⟨0,y,z,rfl,rfl,by rw[show b=j by omega];exact h2,h3⟩
  ·obtain⟨j,y,z,h1,h2,h3⟩:=placeF_spec h
   exact⟨j+1,y,z,by omega,by simpa using h2,h3⟩
theorem place_at {c:Cfg} {cl:ByteArray} {a b:Nat} (h:placeF cl 0 c.cabs=some (a,b)):∃y z,c.cabs[a]? =some y∧y.cls[b]? =some z∧z.code=cl:=by
 obtain⟨j,y,z,h1,h2,h3⟩:=placeF_spec h
 rw[Nat.zero_add]at h1
 subst h1
 exact⟨y,z,h2,h3⟩

/-! ### Legs by their identifiers -/
theorem updL_ids (legs:List (Lid×Leg)) (id:Lid) (f:Leg→Leg):(updL legs id f).map (·.1)=legs.map (·.1):=by
 unfold updL
 rw[List.map_map]
 refine List.map_congr_left fun p _=>?_
 simp only[Function.comp]
 split <;> rfl
theorem updL_len (legs:List (Lid×Leg)) (id:Lid) (f:Leg→Leg):(updL legs id f).length=legs.length:=by simp[updL]
theorem getL_upd (id:Lid) (f:Leg→Leg) (id':Lid):∀legs:List (Lid×Leg),getL (updL legs id f) id'=if id'=id then (getL legs id').map f else getL legs id'
 | []=>by simp[getL,updL]
 | (i,x)::legs=>by
  have ih:=getL_upd id f id' legs
  unfold getL updL at*
  rw[List.map_cons]
  by_cases e:i=id'
  ·subst e
   by_cases e2:i=id
   ·subst e2;simp
   ·simp[e2]
  ·by_cases e2:i=id
   ·subst e2
    simp only[if_true]
    rw[List.find?_cons_of_neg (by simpa using e),List.find?_cons_of_neg (by simpa using e)]
    exact ih
   ·simp only[e2,if_false]
    rw[List.find?_cons_of_neg (by simpa using e),List.find?_cons_of_neg (by simpa using e)]
    exact ih
theorem getL_mem {legs:List (Lid×Leg)} {id:Lid} {x:Leg} (h:getL legs id=some x):(id,x)∈legs:=by
 unfold getL at h
 obtain⟨p,hp,rfl⟩:=Option.map_eq_some_iff.1 h
 have h1:=List.mem_of_find?_eq_some hp
 have h2:=List.find?_some hp
 have:p.1=id:=by simpa using h2
 subst this
 exact h1
theorem getL_none {legs:List (Lid×Leg)} {id:Lid}:getL legs id=none↔id ∉ legs.map (·.1):=by
 unfold getL
 rw[Option.map_eq_none_iff,List.find?_eq_none]
 simp only[List.mem_map,decide_eq_true_eq]
 constructor
 ·rintro h ⟨p,hp,e⟩;exact h p hp e
 ·intro h p hp e;exact h ⟨p,hp,e⟩
theorem getL_app (legs:List (Lid×Leg)) (id':Lid) (x:Leg) (id:Lid):getL (legs++[(id',x)]) id=(getL legs id).or (if id'=id then some x else none):=by
 unfold getL
 rw[List.find?_append]
 cases h:legs.find? fun p=>decide (p.1=id) with
 |some p=>simp
 |none=>
  by_cases e:id'=id
  ·simp[e]
  ·simp[e]
theorem addIds_ids (cl:ByteArray) (n:Int):∀(ids:List Lid) (legs:List (Lid×Leg)),(addIds cl n ids legs).map (·.1)=legs.map (·.1)
 | [],legs=>rfl
 |id::ids,legs=>by rw[addIds,addIds_ids cl n ids,updL_ids]
theorem getL_addIds (cl:ByteArray) (n:Int) (id:Lid):∀(ids:List Lid) (legs:List (Lid×Leg)),ids.Nodup→getL (addIds cl n ids legs) id=if id∈ids then (getL legs id).map (addL cl n) else getL legs id
 | [],legs,_=>by simp[addIds]
 |a::ids,legs,h=>by
  rw[addIds,getL_addIds cl n id ids _ (List.nodup_cons.1 h).2,getL_upd]
  have ha:=(List.nodup_cons.1 h).1
  by_cases e:id=a
  ·subst e
   simp[ha]
  ·simp[e]
theorem mem_upd {legs:List (Lid×Leg)} {id:Lid} {f:Leg→Leg} {p:Lid×Leg} (h:p∈updL legs id f):∃x,(p.1,x)∈legs∧p.2=if p.1=id then f x else x:=by
 obtain⟨q,hq,e⟩:=List.mem_map.1 h
 split at e
 ·rename_i h1;subst e;exact⟨q.2,hq,by simp[h1]⟩
 ·rename_i h1;subst e;exact⟨q.2,hq,by simp[h1]⟩

/-! ### What is sold -/
theorem sum_modify (l:List Int) (k:Nat) (n:Int) (h:k<l.length):(l.modify k (· +n)).sum=l.sum+n:=by
 induction l generalizing k with
 |nil=>simp at h
 |cons a l ih=>
  cases k with
  |zero=>simp[List.modify_cons];omega
  |succ k=>
   have:=ih k (by simpa using h)
   simp[this];omega
def tot (x:Leg):Int:=(x.sold.map List.sum).sum
theorem sums_modify (t:List (List Int)) (i k:Nat) (n:Int) {r:List Int} (hr:t[i]? =some r) (h:k<r.length):((addAt t i k n).map List.sum).sum=(t.map List.sum).sum+n:=by
 unfold addAt
 induction t generalizing i with
 |nil=>simp at hr
 |cons a t ih=>
  cases i with
  |zero=>
   have:a=r:=by simpa using hr
   subst this
   simp[sum_modify a k n h];omega
  |succ i=>
   have:=ih i (by simpa using hr)
   simp[this];omega
theorem modify_at {α:Type} {l:List α} {i j:Nat} {f:α→α}:(l.modify i f)[j]? =(l[j]?).map fun x=>if i=j then f x else x:=by
 rw[List.getElem?_modify]
 cases l[j]? <;> simp
theorem drop_modify (l:List Int) (k:Nat) (n:Int) (i:Nat) (h:k<l.length):((l.modify k (· +n)).drop i).sum=(l.drop i).sum+if i≤k then n else 0:=by
 induction l generalizing k i with
 |nil=>simp at h
 |cons a l ih=>
  cases i with
  |zero=> 
   rw[List.drop_zero,List.drop_zero,sum_modify _ _ _ h,if_pos (Nat.zero_le _)]
  |succ i=>
   cases k with
   |zero=>simp[List.modify_cons]
   |succ k=>
    have:=ih k i (by simpa using h)
    simp only[List.modify_succ_cons,List.drop_succ_cons,this]
    congr 1
    by_cases e:i≤k
    ·rw[if_pos e,if_pos (by omega)]
    ·rw[if_neg e,if_neg (by omega)]
theorem spF_add (y:Cab) (r:List Int) (k:Nat) (n:Int) (i:Nat) (h:k<r.length):spF y (r.modify k (· +n)) i=spF y r i-if i≤k then n else 0:=by
 unfold spF
 rw[drop_modify r k n i h]
 omega
theorem avF_le {y:Cab} {r:List Int}:∀ {k i:Nat},i≤k→avF y r k≤spF y r i
 |0,i,h=>by
  have:i=0:=by omega
  subst this
  exact Int.le_refl _
 |k+1,i,h=>by
  rw[avF]
  by_cases e:i=k+1
  ·subst e;omega
  ·have:=avF_le (y:=y) (r:=r) (k:=k) (i:=i) (by omega)
   omega

/-! ### Inventories that are right -/
structure CabOk (y:Cab):Prop where
 s1:1≤y.seats
 s2:y.seats≤999
 o1:0≤y.over
 o2:y.over≤999
 l1:1≤y.cls.length
 l2:y.cls.length≤26
 p:∀(j:Nat) (z:Cls),y.cls[j]? =some z→0≤z.prot∧z.prot≤autF y
 m:∀(j:Nat) (z w:Cls),y.cls[j]? =some z→y.cls[j+1]? =some w→z.prot≤w.prot
def codes (l:List Cab):List ByteArray:=l.flatMap fun y=>y.cls.map (·.code)
structure CfgOk (c:Cfg):Prop where
 l1:1≤c.cabs.length
 l2:c.cabs.length≤4
 cab:∀y∈c.cabs,CabOk y
 codes:(codes c.cabs).Nodup
structure CfgsOk (l:List Cfg):Prop where
 cfg:∀c∈l,CfgOk c
 eq:(l.map (·.equip)).Nodup
structure LegOk (l:List Cfg) (B:Int) (x:Leg):Prop where
 cfg:CfgOk x.cfg
 find:findF l x.cfg.equip=some x.cfg
 len:x.sold.length=x.cfg.cabs.length
 rows:∀(i:Nat) (y:Cab) (r:List Int),x.cfg.cabs[i]? =some y→x.sold[i]? =some r→r.length=y.cls.length
 pos:∀(i:Nat) (r:List Int),x.sold[i]? =some r→∀v∈r,0≤v
 tot:tot x≤B
structure StkOk (B:Int) (s:Stk):Prop where
 cfgs:CfgsOk s.l
 ids:(s.legs.map (·.1)).Nodup
 leg:∀p∈s.legs,LegOk s.l B p.2
theorem StkOk.get {B:Int} {s:Stk} (h:StkOk B s) {id:Lid} {x:Leg} (hx:s.get id=some x):LegOk s.l B x:=h.leg _ (getL_mem hx)
theorem LegOk.mono {l:List Cfg} {B B':Int} {x:Leg} (h:LegOk l B x) (hB:B≤B'):LegOk l B' x:={ h with tot:=Int.le_trans h.tot hB }
theorem StkOk.mono {B B':Int} {s:Stk} (h:StkOk B s) (hB:B≤B'):StkOk B' s:={ h with leg:=fun p hp=>(h.leg p hp).mono hB }
theorem limF_le {y:Cab} (h:CabOk y) (i:Nat):limF y i≤autF y:=by
 cases i with
 |zero=>exact Int.le_refl _
 |succ i=>
  show autF y-((y.cls[i]?).map (·.prot)).getD 0≤autF y
  cases e:y.cls[i]? with
  |none=>simp
  |some z=>
   have:=h.p i z e
   simp;omega
theorem limF_pos {y:Cab} (h:CabOk y) (i:Nat):0≤limF y i:=by
 have ha:0≤autF y:=by have:=h.s1;have:=h.o1;unfold autF;omega
 cases i with
 |zero=>exact ha
 |succ i=>
  show 0≤autF y-((y.cls[i]?).map (·.prot)).getD 0
  cases e:y.cls[i]? with
  |none=>simpa using ha
  |some z=>
   have:=h.p i z e
   simp;omega
theorem aut_le {y:Cab} (h:CabOk y):autF y≤1998:=by have:=h.s2;have:=h.o2;unfold autF;omega
theorem sum_pos:∀ {l:List Int},(∀v∈l,0≤v)→0≤l.sum
 | [],_=>by simp
 |a::l,h=>by
  have:=sum_pos (l:=l) (fun v hv=>h v (by simp[hv]))
  have:=h a (by simp)
  simp;omega
theorem sum_at:∀ {l:List Int} {k:Nat} {v:Int},(∀v∈l,0≤v)→l[k]? =some v→v≤l.sum
 | [],k,v,_,hk=>by simp at hk
 |a::l,k,v,h,hk=>by
  have h0:=h a (by simp)
  have hs:=sum_pos (l:=l) (fun v hv=>h v (by simp[hv]))
  cases k with
  |zero=>
   have:a=v:=by simpa using hk
   simp;omega
  |succ k=>
   have:=sum_at (l:=l) (k:=k) (v:=v) (fun v hv=>h v (by simp[hv])) (by simpa using hk)
   simp;omega
theorem sum_drop {l:List Int} (h:∀v∈l,0≤v) (k:Nat):0≤(l.drop k).sum∧(l.drop k).sum≤l.sum:=by
 have h1:=sum_pos (l:=l.drop k) (fun v hv=>h v (List.mem_of_mem_drop hv))
 have h2:=sum_pos (l:=l.take k) (fun v hv=>h v (List.mem_of_mem_take hv))
 have h3:(l.take k++l.drop k).sum=(l.take k).sum+(l.drop k).sum:=List.sum_append
 rw[List.take_append_drop]at h3
 omega
theorem LegOk.row {l:List Cfg} {B:Int} {x:Leg} (h:LegOk l B x) {i:Nat} {r:List Int} (hr:x.sold[i]? =some r):(∀v∈r,0≤v)∧r.sum≤B:=by
 refine⟨h.pos i r hr,?_⟩
 have h1:(x.sold.map List.sum).sum≤B:=h.tot
 have h2:(x.sold.map List.sum)[i]? =some r.sum:=by rw[List.getElem?_map,hr];rfl
 have h3:=sum_at (l:=x.sold.map List.sum) (k:=i) (v:=r.sum) (fun v hv=>by
  obtain⟨q,hq,rfl⟩:=List.mem_map.1 hv
  obtain⟨j,hj⟩:=List.mem_iff_getElem?.1 hq
  exact sum_pos (h.pos j q hj)) h2
 omega
theorem LegOk.at_ {l:List Cfg} {B:Int} {x:Leg} (h:LegOk l B x) {cl:ByteArray} {i k:Nat} (hp:placeF cl 0 x.cfg.cabs=some (i,k)):∃y r z v,x.cfg.cabs[i]? =some y∧x.sold[i]? =some r∧y.cls[k]? =some z∧z.code=cl∧r[k]? =some v∧r.length=y.cls.length∧CabOk y:=by
 obtain⟨y,z,h1,h2,h3⟩:=place_at hp
 have hi:i<x.sold.length:=by rw[h.len];exact (List.getElem?_eq_some_iff.1 h1).1
 have hr:x.sold[i]? =some x.sold[i]:=List.getElem?_eq_getElem hi
 have hl:=h.rows i y _ h1 hr
 have hk:k<(x.sold[i]).length:=by rw[hl];exact (List.getElem?_eq_some_iff.1 h2).1
 exact⟨y,_,z,_,h1,hr,h2,h3,List.getElem?_eq_getElem hk,hl,h.cfg.cab y (List.mem_of_getElem? h1)⟩
theorem addL_ok {l:List Cfg} {B:Int} {x:Leg} (h:LegOk l B x) {cl:ByteArray} {n:Int} (hn:∀i k,placeF cl 0 x.cfg.cabs=some (i,k)→0≤soldAt x.sold i k+n) (B':Int) (hB:tot x+n≤B') (hB2:tot x≤B'):LegOk l B' (addL cl n x):=by
 unfold addL
 split
 ·exact { h with tot:=hB2 }
 ·rename_i i k hp
  obtain⟨y,r,z,v,h1,h2,h3,h4,h5,h6,h7⟩:=h.at_ hp
  have hk:k<r.length:=(List.getElem?_eq_some_iff.1 h5).1
  have hsv:soldAt x.sold i k=v:=by unfold soldAt;rw[h2,Option.bind_some,h5];rfl
  have h0:=hn i k hp
  rw[hsv]at h0
  refine⟨h.cfg,h.find,by simp only[addAt,List.length_modify];exact h.len,fun j y' r' hy' hr'=>?_,fun j r' hr' w hw=>?_,?_⟩
  ·simp only[addAt,modify_at]at hr'
   obtain⟨q,hq,rfl⟩:=Option.map_eq_some_iff.1 hr'
   have:=h.rows j y' q hy' hq
   split
   ·rw[List.length_modify];exact this
   ·exact this
  ·simp only[addAt,modify_at]at hr'
   obtain⟨q,hq,rfl⟩:=Option.map_eq_some_iff.1 hr'
   have hp:=h.pos j q hq
   split at hw
   ·rename_i e
    subst e
    rw[h2]at hq
    cases hq
    obtain⟨m,hm⟩:=List.mem_iff_getElem?.1 hw
    rw[modify_at]at hm
    obtain⟨u,hu,rfl⟩:=Option.map_eq_some_iff.1 hm
    split
    ·rename_i e;subst e;rw[h5]at hu;cases hu;exact h0
    ·exact hp u (List.mem_of_getElem? hu)
   ·exact hp w hw
  ·show ((addAt x.sold i k n).map List.sum).sum≤B'
   rw[sums_modify x.sold i k n h2 hk]
   exact hB
/-! ### What can be sold -/
theorem spF_le {y:Cab} (hy:CabOk y) {r:List Int} (h:∀v∈r,0≤v) (i:Nat):spF y r i≤1998:=by
 have h1:=(sum_drop h i).1
 have h2:=limF_le hy i
 have h3:=aut_le hy
 unfold spF;omega
theorem leftF_le {l:List Cfg} {B:Int} {x:Leg} (h:LegOk l B x) (cl:ByteArray):leftF x cl≤1998:=by
 unfold leftF
 split
 ·omega
 ·rename_i i k hp
  obtain⟨y,r,z,v,h1,h2,h3,h4,h5,h6,h7⟩:=h.at_ hp
  rw[h1,h2]
  have h8:=avF_le (y:=y) (r:=r) (k:=k) (i:=0) (Nat.zero_le _)
  have h9:=spF_le h7 (h.row h2).1 0
  show max 0 (avF y r k)≤1998
  omega
theorem left_le {B:Int} {s:Stk} (h:StkOk B s) (id:Lid) (cl:ByteArray):s.left id cl≤1998:=by
 unfold Stk.left
 split
 ·omega
 ·rename_i x hx
  split
  ·omega
  ·exact leftF_le (h.get hx) cl
theorem sell_err {s:Stk} {ids:List Lid} {cl:ByteArray} {n:Int} (h:(s.sell ids cl n).1≠0):(s.sell ids cl n).2=s:=by
 unfold Stk.sell at*
 split at h
 ·rename_i h1;rw[if_pos h1]
 ·rename_i h1
  rw[if_neg h1]
  split at h
  ·rename_i h2;rw[if_pos h2]
  ·exact absurd rfl h

/-! ### Journeys -/
def usF (s:Stk) (ids:List Lid):Bool:=decide (ids≠[]) && decide ids.Nodup && ids.all fun id=>(s.get id).isSome
def minF (s:Stk) (cl:ByteArray) (m:Int):List Lid→Int
 | []=>m
 |id::ids=>minF s cl (min m (s.left id cl)) ids
def openF (s:Stk) (ids:List Lid) (cl:ByteArray):Int:=if usF s ids=true then match ids with
 | []=>0
 |id::ids=>minF s cl (s.left id cl) ids
 else 0
/-! ### The errors of a list of legs -/
section named
variable {s : Stk} {ids : List Lid} {cl : ByteArray} {n : Int} {sale : Bool}
theorem named_arg (h:n<1∨ids=[]):s.named ids cl n sale=2:=by
 unfold Stk.named;rw[if_pos h]
theorem named_twice (h0:¬(n<1∨ids=[])) (h:¬ids.Nodup):s.named ids cl n sale=6:=by
 unfold Stk.named;rw[if_neg h0,if_pos h]
theorem named_none (h0:¬(n<1∨ids=[])) (h1:ids.Nodup) (h:∃id∈ids,s.get id=none):s.named ids cl n sale=7:=by
 obtain⟨id,hid,hx⟩:=h
 unfold Stk.named
 rw[if_neg h0,if_neg (by simpa using h1),if_pos]
 exact List.any_eq_true.2 ⟨id,hid,by rw[hx];rfl⟩
theorem named_some (h2:∀id∈ids,∃x,s.get id=some x):¬(ids.any fun id=>(s.get id).isNone)=true:=by
 simp only[List.any_eq_true,not_exists,not_and]
 intro id hid
 obtain⟨x,hx⟩:=h2 id hid
 rw[hx];simp
theorem named_state (h0:¬(n<1∨ids=[])) (h1:ids.Nodup) (h2:∀id∈ids,∃x,s.get id=some x) (h3:sale=true) (h:∃id∈ids,∃x,s.get id=some x∧x.closed=true):s.named ids cl n sale=10:=by
 obtain⟨id,hid,x,hx,hc⟩:=h
 unfold Stk.named
 rw[if_neg h0,if_neg (by simpa using h1),if_neg (named_some h2),if_pos]
 rw[h3,Bool.true_and]
 exact List.any_eq_true.2 ⟨id,hid,by rw[hx];exact hc⟩
theorem named_open (h3:sale=false∨∀id∈ids,∀x,s.get id=some x→x.closed=false) (h2:∀id∈ids,∃x,s.get id=some x):¬(sale && ids.any fun id=>((s.get id).map (·.closed)).getD false)=true:=by
 rcases h3 with h3 |h3
 ·rw[h3];simp
 ·cases sale
  ·simp
  ·simp only[Bool.true_and,List.any_eq_true,not_exists,not_and]
   intro id hid
   obtain⟨x,hx⟩:=h2 id hid
   rw[hx]
   simp[h3 id hid x hx]
theorem named_class (h0:¬(n<1∨ids=[])) (h1:ids.Nodup) (h2:∀id∈ids,∃x,s.get id=some x) (h3:sale=false∨∀id∈ids,∀x,s.get id=some x→x.closed=false) (h:∃id∈ids,∃x,s.get id=some x∧placeF cl 0 x.cfg.cabs=none):s.named ids cl n sale=16:=by
 obtain⟨id,hid,x,hx,hc⟩:=h
 unfold Stk.named
 rw[if_neg h0,if_neg (by simpa using h1),if_neg (named_some h2),if_neg (named_open h3 h2),if_pos]
 exact List.any_eq_true.2 ⟨id,hid,by rw[hx,Option.bind_some,hc];rfl⟩
theorem named_ok (h0:¬(n<1∨ids=[])) (h1:ids.Nodup) (h2:∀id∈ids,∃x,s.get id=some x) (h3:sale=false∨∀id∈ids,∀x,s.get id=some x→x.closed=false) (h:∀id∈ids,∀x,s.get id=some x→∃q,placeF cl 0 x.cfg.cabs=some q):s.named ids cl n sale=0:=by
 unfold Stk.named
 rw[if_neg h0,if_neg (by simpa using h1),if_neg (named_some h2),if_neg (named_open h3 h2),if_neg]
 simp only[List.any_eq_true,not_exists,not_and]
 intro id hid
 obtain⟨x,hx⟩:=h2 id hid
 obtain⟨q,hq⟩:=h id hid x hx
 rw[hx,Option.bind_some,hq];simp
theorem named_inv (h:s.named ids cl n sale=0):1≤n∧ids≠[]∧ids.Nodup∧∀id∈ids,∃x q,s.get id=some x∧placeF cl 0 x.cfg.cabs=some q:=by
 unfold Stk.named at h
 split at h
 ·omega
 split at h
 ·omega
 split at h
 ·omega
 split at h
 ·omega
 split at h
 ·omega
 rename_i h1 h2 h3 h4 h5
 refine⟨by omega,fun e=>h1 (.inr e),by simpa using h2,fun id hid=>?_⟩
 simp only[List.any_eq_true,not_exists,not_and]at h3 h5
 have h3:=h3 id hid
 have h5:=h5 id hid
 cases hx:s.get id with
 |none=>rw[hx]at h3;simp at h3
 |some x=>
  rw[hx,Option.bind_some]at h5
  cases hq:placeF cl 0 x.cfg.cabs with
  |none=>rw[hq]at h5;simp at h5
  |some q=>exact⟨x,q,rfl,hq⟩
end named
theorem dup_of {α:Type} {l:List α} {i k:Nat} {x:α} (hk:k<i) (h1:l[k]? =some x) (h2:l[i]? =some x):¬l.Nodup:=fun h=>by
 have hi:=(List.getElem?_eq_some_iff.1 h2).1
 have:=(List.getElem?_inj (by omega) h).1 (h1.trans h2.symm)
 omega
theorem take_nodup {α:Type} {l:List α} {i:Nat} {x:α} (h:(l.take i).Nodup) (hx:l[i]? =some x) (hn:∀k,k<i→l[k]? ≠some x):(l.take (i+1)).Nodup:=by
 rw[List.take_add_one,hx]
 show (l.take i++[x]).Nodup
 rw[List.nodup_append]
 refine⟨h,by simp,fun a ha b hb e=>?_⟩
 have:b=x:=by simpa using hb
 subst this
 subst e
 obtain⟨k,hk⟩:=List.mem_iff_getElem?.1 ha
 have hki:k<i:=by
  have:=(List.getElem?_eq_some_iff.1 hk).1
  rw[List.length_take]at this;omega
 rw[List.getElem?_take_of_lt hki]at hk
 exact hn k hki hk
/-! ### What calls keep -/
theorem findF_mem {l:List Cfg} {e:ByteArray} {c:Cfg} (h:findF l e=some c):c∈l∧c.equip=e:=by
 unfold findF at h
 exact⟨List.mem_of_find?_eq_some h,by simpa using List.find?_some h⟩
theorem findF_self {l:List Cfg} {e:ByteArray} {c:Cfg} (h:findF l e=some c):findF l c.equip=some c:=by
 rw[(findF_mem h).2];exact h
theorem sum_rep (n:Nat):(List.replicate n (0:Int)).sum=0:=by
 induction n with
 |zero=>rfl
 |succ n ih=>rw[List.replicate_succ,List.sum_cons,ih];rfl
theorem sum_emptyF (l:List Cab):((l.map fun y=>List.replicate y.cls.length (0:Int)).map List.sum).sum=0:=by
 induction l with
 |nil=>rfl
 |cons y l ih=>
  simp only[List.map_cons,List.sum_cons,sum_rep,ih]
  omega
theorem open_ok {B:Int} {s:Stk} (h:StkOk B s) (hB:0≤B) (id:Lid) (e:ByteArray):StkOk B (s.open id e).2:=by
 unfold Stk.open
 split
 ·exact h
 ·rename_i hn
  split
  ·exact h
  ·rename_i c hc
   have hcm:=findF_mem hc
   have hco:=h.cfgs.cfg c hcm.1
   refine⟨h.cfgs,?_,fun p hp=>?_⟩
   ·have hg:getL s.legs id=none:=by
     have:¬(s.get id).isSome=true:=hn
     cases hx:s.get id with
     |none=>exact hx
     |some x=>rw[hx]at this;simp at this
    rw[List.map_append,List.nodup_append]
    refine⟨h.ids,by simp,fun a ha b hb e'=>?_⟩
    have hb':b=id:=by simpa using hb
    subst hb'
    subst e'
    exact getL_none.1 hg ha
   ·rcases List.mem_append.1 hp with hp |hp
    ·exact h.leg p hp
    ·have:p=(id,⟨c,false,emptyF c⟩):=by simpa using hp
     subst this
     refine⟨hco,findF_self hc,by simp[emptyF],fun i y r h1 h2=>?_,fun i r hr v hv=>?_,?_⟩
     ·unfold emptyF at h2
      rw[List.getElem?_map,h1]at h2
      cases h2
      simp
     ·unfold emptyF at hr
      rw[List.getElem?_map]at hr
      obtain⟨y,-,rfl⟩:=Option.map_eq_some_iff.1 hr
      have:=(List.mem_replicate.1 hv).2
      omega
     ·show ((emptyF c).map List.sum).sum≤B
      unfold emptyF
      rw[sum_emptyF];exact hB
theorem get_of_mem {id:Lid} {x:Leg}:∀ {legs:List (Lid×Leg)},(legs.map (·.1)).Nodup→(id,x)∈legs→getL legs id=some x
 | [],_,hm=>by cases hm
 |p::legs,hn,hm=>by
  rw[List.map_cons,List.nodup_cons]at hn
  unfold getL
  rcases List.mem_cons.1 hm with rfl |hm
  ·simp
  ·have hne:p.1≠id:=fun e=>hn.1 (List.mem_map.2 ⟨(id,x),hm,e.symm⟩)
   rw[List.find?_cons_of_neg (by simpa using hne)]
   exact get_of_mem hn.2 hm
theorem addIds_ok {B B':Int} {cl:ByteArray} {w:Int} (l:List Cfg):∀(ids:List Lid) (s:Stk),s.l=l→ids.Nodup→B≤B'→(s.legs.map (·.1)).Nodup→CfgsOk l→(∀p∈s.legs,p.1∈ids→LegOk l B p.2)→(∀p∈s.legs,LegOk l B' p.2)→
  (∀p∈s.legs,p.1∈ids→LegOk l B' (addL cl w p.2))→∀p∈addIds cl w ids s.legs,LegOk l B' p.2
 | [],s,_,_,_,_,_,_,h,_=>h
 |id::ids,s,hl,hnd,hB,hids,hc,h1,h2,h3=>by
  rw[addIds]
  have hn:=(List.nodup_cons.1 hnd)
  refine addIds_ok l ids { s with legs:=updL s.legs id (addL cl w) } hl hn.2 hB (by show ((updL s.legs id _).map (·.1)).Nodup;rw[updL_ids];exact hids) hc (fun p hp hm=>?_) (fun p hp=>?_) (fun p hp hm=>?_)
  ·obtain⟨x,hx,e⟩:=mem_upd hp
   have hne:p.1≠id:=fun e=>hn.1 (e ▸ hm)
   rw[e,if_neg hne]
   exact h1 _ hx (by simp[hm])
  ·obtain⟨x,hx,e⟩:=mem_upd hp
   rw[e]
   split
   ·rename_i hid
    exact h3 _ hx (by simp[hid])
   ·exact h2 _ hx
  ·obtain⟨x,hx,e⟩:=mem_upd hp
   have hne:p.1≠id:=fun e=>hn.1 (e ▸ hm)
   rw[e,if_neg hne]
   exact h3 _ hx (by simp[hm])
theorem sell_keeps {B:Int} {s:Stk} (h:StkOk B s) (ids:List Lid) (cl:ByteArray) (w:Int) {W:Int} (hw:w≤W) (hW:0≤W):StkOk (B+W) (s.sell ids cl w).2:=by
 have hm:=h.mono (B':=B+W) (by omega)
 by_cases e:(s.sell ids cl w).1=0
 case neg=>rw[sell_err e];exact hm
 unfold Stk.sell at e ⊢
 split at e
 ·rename_i hn;exact absurd e hn
 ·rename_i hn
  rw[if_neg hn]
  split at e
  ·cases e
  ·rename_i ha
   rw[if_neg ha]
   have hn0:s.named ids cl w true=0:=Classical.not_not.1 hn
   obtain⟨h1,h2,h3,h4⟩:=named_inv hn0
   refine⟨h.cfgs,by show ((addIds cl w ids s.legs).map (·.1)).Nodup;rw[addIds_ids];exact h.ids,?_⟩
   refine addIds_ok (B:=B) s.l ids s rfl h3 (by omega) h.ids h.cfgs (fun p hp _=>h.leg p hp) (fun p hp=>hm.leg p hp) (fun p hp hid=>?_)
   have hl:=h.leg p hp
   refine addL_ok hl (fun i k hpl=>?_) (B+W) (by have:=hl.tot;omega) (by have:=hl.tot;omega)
   obtain⟨y,r,z,v,c1,c2,c3,c4,c5,c6,c7⟩:=hl.at_ hpl
   have:0≤v:=hl.pos i r c2 v (List.mem_of_getElem? c5)
   unfold soldAt
   rw[c2,Option.bind_some,c5]
   show 0≤v+w
   omega
end Go.Proofs.YtkemehicndccmaaGreatDoor.Dm
