/-
  Configurations, identifiers of legs, and calls as plain data.
  The inventory of seats as plain data: configurations, what is left in a class, calls.
  The inventory of seats as plain data: what calls keep, and that exactly what is left can be sold.
-/
import Derived.Test.YtaklebjoenophaaGreatWq
set_option linter.unusedSimpArgs false
set_option linter.unusedVariables false
namespace Go.Proofs.YtaklebjoenophaaGreat.Dm
open Go Gw
set_option linter.unusedSimpArgs false

structure Cls where
 code:ByteArray
 prot:Int
def Cls.enc (r:Cls):List D:=[.str r.code,.int .i64 r.prot]
structure Cab where
 name:ByteArray
 seats:Int
 over:Int
 cls:List Cls
 clsx:Bool
def Cab.enc (r:Cab):List D:=[.str r.name,.int .i64 r.seats,.int .i64 r.over,.sl 2 (r.cls.map Cls.enc) r.clsx]
structure Cfg where
 equip:ByteArray
 cabs:List Cab
 cabsx:Bool
def Cfg.enc (r:Cfg):List D:=[.str r.equip,.sl 4 (r.cabs.map Cab.enc) r.cabsx]
structure Lid where
 c:ByteArray
 n:Int
 d:Int
 f:ByteArray
 deriving DecidableEq
def Lid.enc (r:Lid):List D:=[.str r.c,.int .i64 r.n,.int .i64 r.d,.str r.f]
structure Axn where
 kind:Int
 leg:Int
 more:Int
 eq:Int
 cl:Int
 n:Int
def Axn.enc (r:Axn):List D:=[.int .u8 r.kind,.int .u8 r.leg,.int .u8 r.more,.int .u8 r.eq,.int .u8 r.cl,.int .i8 r.n]
def Cls.Ok (r:Cls):Prop:=r.code.size≤9223372036854775807∧(-9223372036854775808≤r.prot∧r.prot≤9223372036854775807)∧True
def Cab.Ok (r:Cab):Prop:=r.name.size≤9223372036854775807∧(-9223372036854775808≤r.seats∧r.seats≤9223372036854775807)∧(-9223372036854775808≤r.over∧r.over≤9223372036854775807)∧((∀e∈r.cls,e.Ok)∧r.cls.length≤9223372036854775807)∧True
def Cfg.Ok (r:Cfg):Prop:=r.equip.size≤9223372036854775807∧((∀e∈r.cabs,e.Ok)∧r.cabs.length≤9223372036854775807)∧True
def Lid.Ok (r:Lid):Prop:=r.c.size≤9223372036854775807∧(-9223372036854775808≤r.n∧r.n≤9223372036854775807)∧(-9223372036854775808≤r.d∧r.d≤9223372036854775807)∧r.f.size≤9223372036854775807∧True
def Axn.Ok (r:Axn):Prop:=(0≤r.kind∧r.kind≤255)∧(0≤r.leg∧r.leg≤255)∧(0≤r.more∧r.more≤255)∧(0≤r.eq∧r.eq≤255)∧(0≤r.cl∧r.cl≤255)∧(-128≤r.n∧r.n≤127)∧True

theorem ba_eq_iff (x y:ByteArray):x.data.toList=y.data.toList↔x=y:=by
 constructor
 ·intro h
  cases x;cases y
  simpa using h
 ·rintro rfl;rfl
theorem str_eq (x y:ByteArray):(x.toList == y.toList)=decide (x=y):=by
 rw[Bool.eq_iff_iff,beq_iff_eq,decide_eq_true_eq,ByteArray.toList_eq,ByteArray.toList_eq,ba_eq_iff]
theorem str_eq' (x y:ByteArray):(x == y)=decide (x=y):=by
 obtain⟨x⟩:=x
 obtain⟨y⟩:=y
 rw[Bool.eq_iff_iff,decide_eq_true_eq]
 show ((x == y)=true)↔_
 rw[beq_iff_eq,ByteArray.mk.injEq]

/-! ### Configurations -/
def rankF (cl:ByteArray):Nat→List Cls→Option Nat
 |_,[]=>none
 |k,z::l=>if z.code=cl then some k else rankF cl (k+1) l
def placeF (cl:ByteArray):Nat→List Cab→Option (Nat×Nat)
 |_,[]=>none
 |i,y::l=>match rankF cl 0 y.cls with
  |some k=>some (i,k)
  |none=>placeF cl (i+1) l
def findF (l:List Cfg) (e:ByteArray):Option Cfg:=l.find? fun x=>decide (x.equip=e)
def autF (c:Cab):Int:=c.seats+c.over
def limF (c:Cab) (i:Nat):Int:=match i with
 |0=>autF c
 |i+1=>autF c-((c.cls[i]?).map (·.prot)).getD 0
def spF (c:Cab) (sold:List Int) (i:Nat):Int:=limF c i-(sold.drop i).sum
def avF (c:Cab) (sold:List Int):Nat→Int
 |0=>spF c sold 0
 |i+1=>min (avF c sold i) (spF c sold (i+1))
def excF (c:Cab) (sold:List Int):Nat→Int
 |0=>0
 |i+1=>max (excF c sold i) (-(spF c sold i))
def likeF (a b:List Cab) (cl:ByteArray):Option ByteArray:=
 match placeF cl 0 a with
 |none=>none
 |some (i,_)=>match placeF cl 0 b with
  |some _=>some cl
  |none=>match b[min i (b.length-1)]? with
   |none=>none
   |some y=>(y.cls.getLast?).map (·.code)

/-! ### Legs -/
structure Leg where
 cfg:Cfg
 closed:Bool
 sold:List (List Int)
structure Stk where
 l:List Cfg
 x:Bool
 legs:List (Lid×Leg)
def getL (legs:List (Lid×Leg)) (id:Lid):Option Leg:=(legs.find? fun p=>decide (p.1=id)).map (·.2)
def updL (legs:List (Lid×Leg)) (id:Lid) (f:Leg→Leg):List (Lid×Leg):=legs.map fun p=>if p.1=id then (p.1,f p.2) else p
def addAt (t:List (List Int)) (i k:Nat) (n:Int):List (List Int):=t.modify i fun r=>r.modify k (· +n)
def soldAt (t:List (List Int)) (i k:Nat):Int:=((t[i]?).bind (·[k]?)).getD 0
def emptyF (c:Cfg):List (List Int):=c.cabs.map fun y=>List.replicate y.cls.length 0
def leftF (x:Leg) (cl:ByteArray):Int:=match placeF cl 0 x.cfg.cabs with
 |none=>0
 |some (i,k)=>match x.cfg.cabs[i]?,x.sold[i]? with
  |some y,some r=>max 0 (avF y r k)
  |_,_=>0
def Stk.get (s:Stk) (id:Lid):Option Leg:=getL s.legs id
def Stk.left (s:Stk) (id:Lid) (cl:ByteArray):Int:=match s.get id with
 |none=>0
 |some x=>if x.closed then 0 else leftF x cl
def freeF (x:Leg) (cl:ByteArray):Int:=match placeF cl 0 x.cfg.cabs with
 |none=>0
 |some (i,_)=>match x.cfg.cabs[i]?,x.sold[i]? with
  |some y,some r=>max (autF y-r.sum) 0
  |_,_=>0
def Stk.free (s:Stk) (id:Lid) (cl:ByteArray):Int:=match s.get id with
 |none=>0
 |some x=>freeF x cl
def Stk.named (s:Stk) (ids:List Lid) (cl:ByteArray) (n:Int) (sale:Bool):Int:=
 if n<1∨ids=[] then 2
 else if ¬ids.Nodup then 6
 else if ids.any (fun id=>(s.get id).isNone) then 7
 else if sale && ids.any (fun id=>((s.get id).map (·.closed)).getD false) then 10
 else if ids.any (fun id=>((s.get id).bind fun x=>placeF cl 0 x.cfg.cabs).isNone) then 16
 else 0
def addL (cl:ByteArray) (n:Int) (x:Leg):Leg:=match placeF cl 0 x.cfg.cabs with
 |none=>x
 |some (i,k)=>{ x with sold:=addAt x.sold i k n }
def addIds (cl:ByteArray) (n:Int):List Lid→List (Lid×Leg)→List (Lid×Leg)
 | [],legs=>legs
 |id::ids,legs=>addIds cl n ids (updL legs id (addL cl n))
def Stk.sell (s:Stk) (ids:List Lid) (cl:ByteArray) (n:Int):Int×Stk:=
 if s.named ids cl n true≠0 then (s.named ids cl n true,s)
 else if ids.any (fun id=>decide (((s.get id).map (leftF · cl)).getD 0<n)) then (17,s)
 else (0,{ s with legs:=addIds cl n ids s.legs })
def soldF (x:Leg) (cl:ByteArray):Int:=match placeF cl 0 x.cfg.cabs with
 |none=>0
 |some (i,k)=>soldAt x.sold i k
def Stk.cancel (s:Stk) (ids:List Lid) (cl:ByteArray) (n:Int):Int×Stk:=
 if s.named ids cl n false≠0 then (s.named ids cl n false,s)
 else if ids.any (fun id=>decide (((s.get id).map (soldF · cl)).getD 0<n)) then (2,s)
 else (0,{ s with legs:=addIds cl (-n) ids s.legs })
def Stk.open (s:Stk) (id:Lid) (e:ByteArray):Int×Stk:=
 if (s.get id).isSome then (6,s) else match findF s.l e with
  |none=>(7,s)
  |some c=>(0,{ s with legs:=s.legs++[(id,⟨c,false,emptyF c⟩)] })
def Stk.close (s:Stk) (id:Lid):Int×Stk:=
 match s.get id with
 |none=>(7,s)
 |some x=>if x.closed then (10,s) else (0,{ s with legs:=updL s.legs id fun x=>{ x with closed:=true } })
def slJ (c:Nat) (y:Cab):Nat→List (Nat×Nat×Cls)
 |0=>[]
 |j+1=>slJ c y j++match y.cls[j]? with
  |some z=>[(c,j,z)]
  |none=>[]
def slC (cabs:List Cab):Nat→List (Nat×Nat×Cls)
 |0=>[]
 |c+1=>slC cabs c++match cabs[c]? with
  |some y=>slJ c y y.cls.length
  |none=>[]
def slotsF (c:Cfg):List (Nat×Nat×Cls):=slC c.cabs c.cabs.length
def toF (a b:Cfg) (cl:ByteArray):Nat×Nat:=(placeF ((likeF a.cabs b.cabs cl).getD (ByteArray.mk #[])) 0 b.cabs).getD (0,0)
def moveF (a b:Cfg) (old:List (List Int)) (t:List (List Int)) (q:Nat×Nat×Cls):List (List Int):=addAt t (toF a b q.2.2.code).1 (toF a b q.2.2.code).2 (soldAt old q.1 q.2.1)
def resizeF (x:Leg) (b:Cfg):Leg:={ x with cfg:=b,sold:=(slotsF x.cfg).foldl (moveF x.cfg b x.sold) (emptyF b) }
def Stk.resize (s:Stk) (id:Lid) (e:ByteArray):Int×Stk:=
 match s.get id,findF s.l e with
 |some _,some b=>(0,{ s with legs:=updL s.legs id (resizeF · b) })
 |_,_=>(7,s)
def countsF (x:Leg):List (ByteArray×Int):=(slotsF x.cfg).map fun q=>(q.2.2.code,soldAt x.sold q.1 q.2.1)
def Stk.counts (s:Stk) (id:Lid):List (ByteArray×Int):=match s.get id with
 |none=>[]
 |some x=>countsF x
def excL (x:Leg):Int:=(x.cfg.cabs.zip x.sold).foldl (fun m p=>max m (excF p.1 p.2 p.2.length)) 0
def Stk.excess (s:Stk) (id:Lid):Int:=match s.get id with
 |none=>0
 |some x=>excL x
def Stk.equip (s:Stk) (id:Lid):Option ByteArray:=(s.get id).map (·.cfg.equip)

/-! ### Places -/
theorem rankF_spec {cl:ByteArray}:∀ {l:List Cls} {k r:Nat},rankF cl k l=some r→∃j z,r=k+j∧l[j]? =some z∧z.code=cl
 | [],k,r,h=>by cases h
 |z::l,k,r,h=>by
  unfold rankF at h
  split at h
  ·rename_i e
   cases h
   exact⟨0,z,rfl,rfl,e⟩
  ·obtain⟨j,w,h1,h2,h3⟩:=rankF_spec h
   exact⟨j+1,w,by omega,by simpa using h2,h3⟩
theorem placeF_spec {cl:ByteArray}:∀ {l:List Cab} {i a b:Nat},placeF cl i l=some (a,b)→∃j y z,a=i+j∧l[j]? =some y∧y.cls[b]? =some z∧z.code=cl
 | [],i,a,b,h=>by cases h
 |y::l,i,a,b,h=>by
  unfold placeF at h
  split at h
  ·rename_i k hk
   cases h
   obtain⟨j,z,h1,h2,h3⟩:=rankF_spec hk
   exact⟨0,y,z,rfl,rfl,by rw[show b=j by omega];exact h2,h3⟩
  ·obtain⟨j,y,z,h1,h2,h3⟩:=placeF_spec h
   exact⟨j+1,y,z,by omega,by simpa using h2,h3⟩
theorem place_at {c:Cfg} {cl:ByteArray} {a b:Nat} (h:placeF cl 0 c.cabs=some (a,b)):∃y z,c.cabs[a]? =some y∧y.cls[b]? =some z∧z.code=cl:=by
 obtain⟨j,y,z,h1,h2,h3⟩:=placeF_spec h
 rw[Nat.zero_add]at h1
 subst h1
 exact⟨y,z,h2,h3⟩

/-! ### Legs by their identifiers -/
theorem getL_mem {legs:List (Lid×Leg)} {id:Lid} {x:Leg} (h:getL legs id=some x):(id,x)∈legs:=by
 unfold getL at h
 obtain⟨p,hp,rfl⟩:=Option.map_eq_some_iff.1 h
 have h1:=List.mem_of_find?_eq_some hp
 have h2:=List.find?_some hp
 have:p.1=id:=by simpa using h2
 subst this
 exact h1
/-! ### What is sold -/
def tot (x:Leg):Int:=(x.sold.map List.sum).sum
/-! ### Inventories that are right -/
structure CabOk (y:Cab):Prop where
 s1:1≤y.seats
 s2:y.seats≤999
 o1:0≤y.over
 o2:y.over≤999
 l1:1≤y.cls.length
 l2:y.cls.length≤26
 p:∀(j:Nat) (z:Cls),y.cls[j]? =some z→0≤z.prot∧z.prot≤autF y
 m:∀(j:Nat) (z w:Cls),y.cls[j]? =some z→y.cls[j+1]? =some w→z.prot≤w.prot
def codes (l:List Cab):List ByteArray:=l.flatMap fun y=>y.cls.map (·.code)
structure CfgOk (c:Cfg):Prop where
 l1:1≤c.cabs.length
 l2:c.cabs.length≤4
 cab:∀y∈c.cabs,CabOk y
 codes:(codes c.cabs).Nodup
structure CfgsOk (l:List Cfg):Prop where
 cfg:∀c∈l,CfgOk c
 eq:(l.map (·.equip)).Nodup
structure LegOk (l:List Cfg) (B:Int) (x:Leg):Prop where
 cfg:CfgOk x.cfg
 find:findF l x.cfg.equip=some x.cfg
 len:x.sold.length=x.cfg.cabs.length
 rows:∀(i:Nat) (y:Cab) (r:List Int),x.cfg.cabs[i]? =some y→x.sold[i]? =some r→r.length=y.cls.length
 pos:∀(i:Nat) (r:List Int),x.sold[i]? =some r→∀v∈r,0≤v
 tot:tot x≤B
structure StkOk (B:Int) (s:Stk):Prop where
 cfgs:CfgsOk s.l
 ids:(s.legs.map (·.1)).Nodup
 leg:∀p∈s.legs,LegOk s.l B p.2
theorem StkOk.get {B:Int} {s:Stk} (h:StkOk B s) {id:Lid} {x:Leg} (hx:s.get id=some x):LegOk s.l B x:=h.leg _ (getL_mem hx)
theorem LegOk.mono {l:List Cfg} {B B':Int} {x:Leg} (h:LegOk l B x) (hB:B≤B'):LegOk l B' x:={ h with tot:=Int.le_trans h.tot hB }
theorem StkOk.mono {B B':Int} {s:Stk} (h:StkOk B s) (hB:B≤B'):StkOk B' s:={ h with leg:=fun p hp=>(h.leg p hp).mono hB }
theorem sum_pos:∀ {l:List Int},(∀v∈l,0≤v)→0≤l.sum
 | [],_=>by simp
 |a::l,h=>by
  have:=sum_pos (l:=l) (fun v hv=>h v (by simp[hv]))
  have:=h a (by simp)
  simp;omega
theorem sum_at:∀ {l:List Int} {k:Nat} {v:Int},(∀v∈l,0≤v)→l[k]? =some v→v≤l.sum
 | [],k,v,_,hk=>by simp at hk
 |a::l,k,v,h,hk=>by
  have h0:=h a (by simp)
  have hs:=sum_pos (l:=l) (fun v hv=>h v (by simp[hv]))
  cases k with
  |zero=>
   have:a=v:=by simpa using hk
   simp;omega
  |succ k=>
   have:=sum_at (l:=l) (k:=k) (v:=v) (fun v hv=>h v (by simp[hv])) (by simpa using hk)
   simp;omega
theorem LegOk.row {l:List Cfg} {B:Int} {x:Leg} (h:LegOk l B x) {i:Nat} {r:List Int} (hr:x.sold[i]? =some r):(∀v∈r,0≤v)∧r.sum≤B:=by
 refine⟨h.pos i r hr,?_⟩
 have h1:(x.sold.map List.sum).sum≤B:=h.tot
 have h2:(x.sold.map List.sum)[i]? =some r.sum:=by rw[List.getElem?_map,hr];rfl
 have h3:=sum_at (l:=x.sold.map List.sum) (k:=i) (v:=r.sum) (fun v hv=>by
  obtain⟨q,hq,rfl⟩:=List.mem_map.1 hv
  obtain⟨j,hj⟩:=List.mem_iff_getElem?.1 hq
  exact sum_pos (h.pos j q hj)) h2
 omega
theorem LegOk.at_ {l:List Cfg} {B:Int} {x:Leg} (h:LegOk l B x) {cl:ByteArray} {i k:Nat} (hp:placeF cl 0 x.cfg.cabs=some (i,k)):∃y r z v,x.cfg.cabs[i]? =some y∧x.sold[i]? =some r∧y.cls[k]? =some z∧z.code=cl∧r[k]? =some v∧r.length=y.cls.length∧CabOk y:=by
 obtain⟨y,z,h1,h2,h3⟩:=place_at hp
 have hi:i<x.sold.length:=by rw[h.len];exact (List.getElem?_eq_some_iff.1 h1).1
 have hr:x.sold[i]? =some x.sold[i]:=List.getElem?_eq_getElem hi
 have hl:=h.rows i y _ h1 hr
 have hk:k<(x.sold[i]).length:=by rw[hl];exact (List.getElem?_eq_some_iff.1 h2).1
 exact⟨y,_,z,_,h1,hr,h2,h3,List.getElem?_eq_getElem hk,hl,h.cfg.cab y (List.mem_of_getElem? h1)⟩
/-! ### What can be sold -/
/-! ### Journeys -/
def usF (s:Stk) (ids:List Lid):Bool:=decide (ids≠[]) && decide ids.Nodup && ids.all fun id=>(s.get id).isSome
def minF (s:Stk) (cl:ByteArray) (m:Int):List Lid→Int
 | []=>m
 |id::ids=>minF s cl (min m (s.left id cl)) ids
def openF (s:Stk) (ids:List Lid) (cl:ByteArray):Int:=if usF s ids=true then match ids with
 | []=>0
 |id::ids=>minF s cl (s.left id cl) ids
 else 0
/-! ### The errors of a list of legs -/
section named
variable {s : Stk} {ids : List Lid} {cl : ByteArray} {n : Int} {sale : Bool}
end named
/-! ### What calls keep -/
end Go.Proofs.YtaklebjoenophaaGreat.Dm
