/-
  Configurations, identifiers of legs, and calls as plain data.
  The inventory of seats as plain data: configurations, what is left in a class, calls.
  The inventory of seats as plain data: what calls keep, and that exactly what is left can be sold.
  The inventory of seats in the store: what lies where, whose it is, and what a step keeps.
-/
import Derived.Test.YtaklebjoenophaaGreatWq
set_option linter.unusedSimpArgs false
set_option linter.unusedVariables false
namespace Go.Proofs.YtaklebjoenophaaGreat.Dm
open Go Gw
structure Cls where
 code:ByteArray
 prot:Int
def Cls.enc (r:Cls):List D:=[.str r.code,.int .i64 r.prot]
structure Cab where
 name:ByteArray
 seats:Int
 over:Int
 cls:List Cls
 clsx:Bool
def Cab.enc (r:Cab):List D:=[.str r.name,.int .i64 r.seats,.int .i64 r.over,.sl 2 (r.cls.map Cls.enc) r.clsx]
structure Cfg where
 equip:ByteArray
 cabs:List Cab
 cabsx:Bool
def Cfg.enc (r:Cfg):List D:=[.str r.equip,.sl 4 (r.cabs.map Cab.enc) r.cabsx]
structure Lid where
 c:ByteArray
 n:Int
 d:Int
 f:ByteArray
 deriving DecidableEq
def Lid.enc (r:Lid):List D:=[.str r.c,.int .i64 r.n,.int .i64 r.d,.str r.f]
structure Axn where
 kind:Int
 leg:Int
 more:Int
 eq:Int
 cl:Int
 n:Int
def Axn.enc (r:Axn):List D:=[.int .u8 r.kind,.int .u8 r.leg,.int .u8 r.more,.int .u8 r.eq,.int .u8 r.cl,.int .i8 r.n]
def Cls.Ok (r:Cls):Prop:=r.code.size<=9223372036854775807/\(-9223372036854775808<=r.prot/\r.prot<=9223372036854775807)/\True
def Cab.Ok (r:Cab):Prop:=r.name.size<=9223372036854775807/\(-9223372036854775808<=r.seats/\r.seats<=9223372036854775807)/\(-9223372036854775808<=r.over/\r.over<=9223372036854775807)/\((∀e∈r.cls,e.Ok)/\r.cls.length<=9223372036854775807)/\True
def Cfg.Ok (r:Cfg):Prop:=r.equip.size<=9223372036854775807/\((∀e∈r.cabs,e.Ok)/\r.cabs.length<=9223372036854775807)/\True
def Lid.Ok (r:Lid):Prop:=r.c.size<=9223372036854775807/\(-9223372036854775808<=r.n/\r.n<=9223372036854775807)/\(-9223372036854775808<=r.d/\r.d<=9223372036854775807)/\r.f.size<=9223372036854775807/\True
def Axn.Ok (r:Axn):Prop:=(0<=r.kind/\r.kind<=255)/\(0<=r.leg/\r.leg<=255)/\(0<=r.more/\r.more<=255)/\(0<=r.eq/\r.eq<=255)/\(0<=r.cl/\r.cl<=255)/\(-128<=r.n/\r.n<=127)/\True
theorem ba_eq_iff (x y:ByteArray):x.data.toList=y.data.toList↔x=y:=by
 constructor
 ·intro h
  cases x;cases y
  simpa using h
 ·rintro rfl;rfl
theorem Yo (x y:ByteArray):(x.toList == y.toList)=decide (x=y):=by
 rw[Bool.eq_iff_iff,beq_iff_eq,Up,ByteArray.toList_eq,ByteArray.toList_eq,ba_eq_iff]
theorem str_eq' (x y:ByteArray):(x == y)=decide (x=y):=by
 obtain⟨x⟩:=x
 obtain⟨y⟩:=y
 rw[Bool.eq_iff_iff,Up]
 show ((x == y)=true)↔_
 rw[beq_iff_eq,ByteArray.mk.injEq]
/-! ### Configurations -/
def rankF (cl:ByteArray):Nat->List Cls->Option Nat
 |_,[]=>none
 |k,z::l=>if z.code=cl then some k else rankF cl (k+1) l
def placeF (cl:ByteArray):Nat->List Cab->Option (Nat×Nat)
 |_,[]=>none
 |i,y::l=>match rankF cl 0 y.cls with
  |some k=>some (i,k)
  |none=>placeF cl (i+1) l
def findF (l:List Cfg) (e:ByteArray):Option Cfg:=l.find? λx=>decide (x.equip=e)
def autF (c:Cab):Int:=c.seats+c.over
def limF (c:Cab) (i:Nat):Int:=match i with
 |0=>autF c
 |i+1=>autF c-((c.cls[i]?).map (·.prot)).getD 0
def spF (c:Cab) (sold:List Int) (i:Nat):Int:=limF c i-(sold.drop i).sum
def avF (c:Cab) (sold:List Int):Nat->Int
 |0=>spF c sold 0
 |i+1=>min (avF c sold i) (spF c sold (i+1))
def excF (c:Cab) (sold:List Int):Nat->Int
 |0=>0
 |i+1=>max (excF c sold i) (-(spF c sold i))
def likeF (a b:List Cab) (cl:ByteArray):Option ByteArray:=
 match placeF cl 0 a with
 |none=>none
 |some (i,_)=>match placeF cl 0 b with
  |some _=>some cl
  |none=>match b[min i (b.length-1)]? with
   |none=>none
   |some y=>(y.cls.getLast?).map (·.code)
/-! ### Legs -/
structure Leg where
 cfg:Cfg
 closed:Bool
 sold:List (List Int)
structure Stk where
 l:List Cfg
 x:Bool
 legs:List (Lid×Leg)
def getL (legs:List (Lid×Leg)) (id:Lid):Option Leg:=(legs.find? λp=>decide (p.1=id)).map (·.2)
def updL (legs:List (Lid×Leg)) (id:Lid) (f:Leg->Leg):List (Lid×Leg):=legs.map λp=>if p.1=id then (p.1,f p.2) else p
def addAt (t:List (List Int)) (i k:Nat) (n:Int):List (List Int):=t.modify i λr=>r.modify k (· +n)
def emptyF (c:Cfg):List (List Int):=c.cabs.map λy=>List.replicate y.cls.length 0
def leftF (x:Leg) (cl:ByteArray):Int:=match placeF cl 0 x.cfg.cabs with
 |none=>0
 |some (i,k)=>match x.cfg.cabs[i]?,x.sold[i]? with
  |some y,some r=>max 0 (avF y r k)
  |_,_=>0
def Stk.get (s:Stk) (id:Lid):Option Leg:=getL s.legs id
def Stk.left (s:Stk) (id:Lid) (cl:ByteArray):Int:=match s.get id with
 |none=>0
 |some x=>if x.closed then 0 else leftF x cl
def freeF (x:Leg) (cl:ByteArray):Int:=match placeF cl 0 x.cfg.cabs with
 |none=>0
 |some (i,_)=>match x.cfg.cabs[i]?,x.sold[i]? with
  |some y,some r=>max (autF y-r.sum) 0
  |_,_=>0
def Stk.free (s:Stk) (id:Lid) (cl:ByteArray):Int:=match s.get id with
 |none=>0
 |some x=>freeF x cl
def Stk.named (s:Stk) (ids:List Lid) (cl:ByteArray) (n:Int) (sale:Bool):Int:=
 if n<1∨ids=[] then 2
 else if ¬ids.Nodup then 6
 else if ids.any (λid=>(s.get id).isNone) then 7
 else if sale && ids.any (λid=>((s.get id).map (·.closed)).getD false) then 10
 else if ids.any (λid=>((s.get id).bind λx=>placeF cl 0 x.cfg.cabs).isNone) then 16
 else 0
def addL (cl:ByteArray) (n:Int) (x:Leg):Leg:=match placeF cl 0 x.cfg.cabs with
 |none=>x
 |some (i,k)=>{ x with sold:=addAt x.sold i k n }
def addIds (cl:ByteArray) (n:Int):List Lid->List (Lid×Leg)->List (Lid×Leg)
 | [],legs=>legs
 |id::ids,legs=>addIds cl n ids (updL legs id (addL cl n))
def Stk.open (s:Stk) (id:Lid) (e:ByteArray):Int×Stk:=
 if (s.get id).isSome then (6,s) else match findF s.l e with
  |none=>(7,s)
  |some c=>(0,{ s with legs:=s.legs++[(id,⟨c,false,emptyF c⟩)] })
def slJ (c:Nat) (y:Cab):Nat->List (Nat×Nat×Cls)
 |0=>[]
 |j+1=>slJ c y j++match y.cls[j]? with
  |some z=>[(c,j,z)]
  |none=>[]
def slC (cabs:List Cab):Nat->List (Nat×Nat×Cls)
 |0=>[]
 |c+1=>slC cabs c++match cabs[c]? with
  |some y=>slJ c y y.cls.length
  |none=>[]
def Stk.equip (s:Stk) (id:Lid):Option ByteArray:=(s.get id).map (·.cfg.equip)
/-! ### Places -/
theorem rankF_spec {cl:ByteArray}:∀ {l:List Cls} {k r:Nat},rankF cl k l=some r->∃j z,r=k+j/\l[j]?=some z/\z.code=cl
 | [],k,r,h=>by cases h
 |z::l,k,r,h=>by
  unfold rankF at h
  split at h
  ·rename_i e
   cases h
   exact⟨0,z,rfl,rfl,e⟩
  ·obtain⟨j,w,h1,h2,h3⟩:=rankF_spec h
   exact⟨j+1,w,by omega,by simpa using h2,h3⟩
theorem placeF_spec {cl:ByteArray}:∀ {l:List Cab} {i a b:Nat},placeF cl i l=some (a,b)->∃j y z,a=i+j/\l[j]?=some y/\y.cls[b]?=some z/\z.code=cl
 | [],i,a,b,h=>by cases h
 |y::l,i,a,b,h=>by
  unfold placeF at h
  split at h
  ·rename_i k hk
   cases h
   obtain⟨j,z,h1,h2,h3⟩:=rankF_spec hk
   exact⟨0,y,z,rfl,rfl,by rw[show b=j by omega];exact h2,h3⟩
  ·obtain⟨j,y,z,h1,h2,h3⟩:=placeF_spec h
   exact⟨j+1,y,z,by omega,by simpa using h2,h3⟩
theorem place_at {c:Cfg} {cl:ByteArray} {a b:Nat} (h:placeF cl 0 c.cabs=some (a,b)):∃y z,c.cabs[a]?=some y/\y.cls[b]?=some z/\z.code=cl:=by
 obtain⟨j,y,z,h1,h2,h3⟩:=placeF_spec h
 rw[Nat.zero_add]at h1
 subst h1
 exact⟨y,z,h2,h3⟩
/-! ### Legs by their identifiers -/
theorem getL_mem {legs:List (Lid×Leg)} {id:Lid} {x:Leg} (h:getL legs id=some x):(id,x)∈legs:=by
 unfold getL at h
 obtain⟨p,hp,rfl⟩:=Ks.1 h
 have h1:=List.mem_of_find?_eq_some hp
 have h2:=List.find?_some hp
 have:p.1=id:=by simpa using h2
 subst this
 exact h1
/-! ### What is sold -/
def tot (x:Leg):Int:=(x.sold.map List.sum).sum
/-! ### Inventories that are right -/
structure CabOk (y:Cab):Prop where
 s1:1<=y.seats
 s2:y.seats<=999
 o1:0<=y.over
 o2:y.over<=999
 l1:1<=y.cls.length
 l2:y.cls.length<=26
 p:∀(j:Nat) (z:Cls),y.cls[j]?=some z->0<=z.prot/\z.prot<=autF y
 m:∀(j:Nat) (z w:Cls),y.cls[j]?=some z->y.cls[j+1]?=some w->z.prot<=w.prot
def codes (l:List Cab):List ByteArray:=l.flatMap λy=>y.cls.map (·.code)
structure CfgOk (c:Cfg):Prop where
 l1:1<=c.cabs.length
 l2:c.cabs.length<=4
 cab:∀y∈c.cabs,CabOk y
 codes:(codes c.cabs).Nodup
structure CfgsOk (l:List Cfg):Prop where
 cfg:∀c∈l,CfgOk c
 eq:(l.map (·.equip)).Nodup
structure LegOk (l:List Cfg) (B:Int) (x:Leg):Prop where
 cfg:CfgOk x.cfg
 find:findF l x.cfg.equip=some x.cfg
 len:x.sold.length=x.cfg.cabs.length
 rows:∀(i:Nat) (y:Cab) (r:List Int),x.cfg.cabs[i]?=some y->x.sold[i]?=some r->r.length=y.cls.length
 pos:∀(i:Nat) (r:List Int),x.sold[i]?=some r->∀v∈r,0<=v
 tot:tot x<=B
structure StkOk (B:Int) (s:Stk):Prop where
 cfgs:CfgsOk s.l
 ids:(s.legs.map (·.1)).Nodup
 leg:∀p∈s.legs,LegOk s.l B p.2
theorem StkOk.get {B:Int} {s:Stk} (h:StkOk B s) {id:Lid} {x:Leg} (hx:s.get id=some x):LegOk s.l B x:=h.leg _ (getL_mem hx)
theorem LegOk.mono {l:List Cfg} {B B':Int} {x:Leg} (h:LegOk l B x) (hB:B<=B'):LegOk l B' x:={ h with tot:=Int.le_trans h.tot hB }
theorem StkOk.mono {B B':Int} {s:Stk} (h:StkOk B s) (hB:B<=B'):StkOk B' s:={ h with leg:=λp hp=>(h.leg p hp).mono hB }
theorem sum_pos:∀ {l:List Int},(∀v∈l,0<=v)->0<=l.sum
 | [],_=>by simp
 |a::l,h=>by
  have:=sum_pos (l:=l) (λv hv=>h v (by simp[hv]))
  have:=h a (by simp)
  simp;omega
theorem sum_at:∀ {l:List Int} {k:Nat} {v:Int},(∀v∈l,0<=v)->l[k]?=some v->v<=l.sum
 | [],k,v,_,hk=>by simp at hk
 |a::l,k,v,h,hk=>by
  have h0:=h a (by simp)
  have hs:=sum_pos (l:=l) (λv hv=>h v (by simp[hv]))
  cases k with
  |zero=>
   have:a=v:=by simpa using hk
   simp;omega
  |succ k=>
   have:=sum_at (l:=l) (k:=k) (v:=v) (λv hv=>h v (by simp[hv])) (by simpa using hk)
   simp;omega
theorem LegOk.row {l:List Cfg} {B:Int} {x:Leg} (h:LegOk l B x) {i:Nat} {r:List Int} (hr:x.sold[i]?=some r):(∀v∈r,0<=v)/\r.sum<=B:=by
 refine⟨h.pos i r hr,?_⟩
 have h1:(x.sold.map List.sum).sum<=B:=h.tot
 have h2:(x.sold.map List.sum)[i]?=some r.sum:=by rw[Vd,hr];rfl
 have h3:=sum_at (l:=x.sold.map List.sum) (k:=i) (v:=r.sum) (λv hv=>by
  obtain⟨q,hq,rfl⟩:=Vq.1 hv
  obtain⟨j,hj⟩:=Vv.1 hq
  exact sum_pos (h.pos j q hj)) h2
 omega
theorem LegOk.at_ {l:List Cfg} {B:Int} {x:Leg} (h:LegOk l B x) {cl:ByteArray} {i k:Nat} (hp:placeF cl 0 x.cfg.cabs=some (i,k)):∃y r z v,x.cfg.cabs[i]?=some y/\x.sold[i]?=some r/\y.cls[k]?=some z/\z.code=cl/\r[k]?=some v/\r.length=y.cls.length/\CabOk y:=by
 obtain⟨y,z,h1,h2,h3⟩:=place_at hp
 have hi:i<x.sold.length:=by rw[h.len];exact (Kr.1 h1).1
 have hr:x.sold[i]?=some x.sold[i]:=Uh hi
 have hl:=h.rows i y _ h1 hr
 have hk:k<(x.sold[i]).length:=by rw[hl];exact (Kr.1 h2).1
 exact⟨y,_,z,_,h1,hr,h2,h3,Uh hk,hl,h.cfg.cab y (Kx h1)⟩
/-! ### What can be sold -/
/-! ### Journeys -/
def minF (s:Stk) (cl:ByteArray) (m:Int):List Lid->Int
 | []=>m
 |id::ids=>minF s cl (min m (s.left id cl)) ids
/-! ### The errors of a list of legs -/
section named
variable {s : Stk} {ids : List Lid} {cl : ByteArray} {n : Int} {sale : Bool}
end named
/-! ### What calls keep -/
abbrev Lab:=Nat->List Nat
def FreshL (S:List Ob) (lab:Lab):Prop:=∀x,S.length<=x->lab x=[]
structure Step (o:Nat) (S:List Ob) (lab:Lab) (T:List Ob) (lab':Lab):Prop where
 len:S.length<=T.length
 fresh:FreshL T lab'
 labs:∀x,x<S.length->lab' x=lab x
 keep:∀x,x<S.length->(lab x).head? ≠some o->T[x]?=S[x]?
theorem Step.refl {o:Nat} {S:List Ob} {lab:Lab} (h:FreshL S lab):Step o S lab S lab:=⟨Uk _,h,λ_ _=>rfl,λ_ _ _=>rfl⟩
theorem Step.trans {o:Nat} {S T U:List Ob} {l m n:Lab} (h:Step o S l T m) (g:Step o T m U n):Step o S l U n where
 len:=Vk h.len g.len
 fresh:=g.fresh
 labs x hx:=(g.labs x (Nat.lt_of_lt_of_le hx h.len)).trans (h.labs x hx)
 keep x hx hl:=(g.keep x (Nat.lt_of_lt_of_le hx h.len) (by rw[h.labs x hx];exact hl)).trans (h.keep x hx hl)
theorem lt_of_get {α:Type} {l:List α} {i:Nat} {x:α} (h:l[i]?=some x):i<l.length:=(Kr.1 h).1
theorem FreshL.push {S:List Ob} {lab:Lab} (h:FreshL S lab) (J:List Ob):FreshL (S++J) lab:=λx hx=>h x (by rw[Ku]at hx;omega)
theorem Step.push {o:Nat} {S:List Ob} {lab:Lab} (h:FreshL S lab) (J:List Ob):Step o S lab (S++J) lab where
 len:=by rw[Ku];omega
 fresh:=h.push J
 labs _ _:=rfl
 keep x hx _:=Ut hx
def setL (lab:Lab) (x:Nat) (t:List Nat):Lab:=λy=>if y=x then t else lab y
theorem setL_ne {lab:Lab} {x y:Nat} {t:List Nat} (h:y≠x):setL lab x t y=lab y:=by simp[setL,h]
theorem Step.add {o:Nat} {S:List Ob} {lab:Lab} (h:FreshL S lab) (ob:Ob) (t:List Nat):Step o S lab (S++[ob]) (setL lab S.length t) where
 len:=by rw[Ku];omega
 fresh x hx:=by
  rw[Ku,List.length_singleton]at hx
  rw[setL_ne (by omega)]
  exact h x (by omega)
 labs x hx:=setL_ne (by omega)
 keep x hx _:=Ut hx
theorem Step.set {o:Nat} {S:List Ob} {lab:Lab} (h:FreshL S lab) {k:Nat} (ob:Ob) (hk:(lab k).head? =some o):Step o S lab (S.set k ob) lab where
 len:=by simp
 fresh x hx:=h x (by simpa using hx)
 labs _ _:=rfl
 keep x hx hl:=by
  rw[Kt]
  rintro rfl
  exact hl hk
theorem Step.other {o o':Nat} {S T:List Ob} {l m:Lab} (h:Step o S l T m) (ho:o'≠o) {x:Nat} {ob:Ob} {t:List Nat} (hx:S[x]?=some ob) (hl:l x=o'::t):T[x]?=some ob/\m x=o'::t:=by
 have hlt:=lt_of_get hx
 refine⟨by rw[h.keep x hlt (by rw[hl];simpa using ho)];exact hx,by rw[h.labs x hlt];exact hl⟩
theorem Step.free {o:Nat} {S T:List Ob} {l m:Lab} (h:Step o S l T m) {x:Nat} {ob:Ob} (hx:S[x]?=some ob) (hl:l x=[]):T[x]?=some ob/\m x=[]:=by
 have hlt:=lt_of_get hx
 refine⟨by rw[h.keep x hlt (by rw[hl];simp)];exact hx,by rw[h.labs x hlt];exact hl⟩
abbrev encZ (n:Int):List D:=[.int .i64 n]
def TabAt (S:List Ob) (lab:Lab) (o i:Nat) (d:D) (t:List (List Int)):Prop:=
 ∃(q:Nat) (r:Nat->Nat) (es:List (List D)),d=.os q 0 t.length false/\lab q=[o,2,i]/\S[q]?=some (.row 1 es)/\es.length=t.length/\
  ∀(j:Nat) (row:List Int),t[j]?=some row->es[j]?=some [.os (r j) 0 row.length false]/\lab (r j)=[o,3,i,j]/\S[r j]?=some (.row 1 (row.map encZ))
def KeepO (o:Nat) (S:List Ob) (lab:Lab) (T:List Ob) (lab':Lab):Prop:=∀(x:Nat) (ob:Ob) (t:List Nat),S[x]?=some ob->lab x=o::t->T[x]?=some ob/\lab' x=o::t
theorem KeepO.push {o:Nat} {S J:List Ob} {lab:Lab}:KeepO o S lab (S++J) lab:=λ_ _ _ hx hl=>⟨Ym hx,hl⟩
theorem TabAt.keep {S T:List Ob} {lab lab':Lab} {o i:Nat} {d:D} {t:List (List Int)} (h:TabAt S lab o i d t)
  (g:∀(x:Nat) (ob:Ob) (tl:List Nat),S[x]?=some ob->(lab x=[o,2,i]∨∃j,lab x=[o,3,i,j])->T[x]?=some ob/\lab' x=lab x):TabAt T lab' o i d t:=by
 obtain⟨q,r,es,rfl,hq,hs,hl,hr⟩:=h
 obtain⟨g1,g2⟩:=g q _ [] hs (.inl hq)
 refine⟨q,r,es,rfl,by rw[g2,hq],g1,hl,λj row hj=>?_⟩
 obtain⟨h1,h2,h3⟩:=hr j row hj
 obtain⟨g1,g2⟩:=g (r j) _ [] h3 (.inr ⟨j,h2⟩)
 exact⟨h1,by rw[g2,h2],g1⟩
theorem modify_get {α:Type} {l:List α} {i j:Nat} {f:α->α} {y:α} (h:(l.modify i f)[j]?=some y):∃x,l[j]?=some x/\y=if i=j then f x else x:=by
 rw[List.getElem?_modify]at h
 cases hx:l[j]? with
 |none=>rw[hx]at h;cases h
 |some x=>
  rw[hx]at h
  refine⟨x,rfl,?_⟩
  have:=Kz h
  rw[<-this]
theorem TabAt.add {S:List Ob} {lab:Lab} {o i a b:Nat} {d:D} {t:List (List Int)} {row:List Int} {r:Nat} {n:Int} (h:TabAt S lab o i d t) (ha:t[a]?=some row) (hl:lab r=[o,3,i,a]) (hr:∃(q:Nat) (es:List (List D)),d=.os q 0 t.length false/\S[q]?=some (.row 1 es)/\es[a]?=some [.os r 0 row.length false]):
  TabAt (S.set r (.row 1 ((row.modify b (· +n)).map encZ))) lab o i d (addAt t a b n):=by
 obtain⟨q,f,es,rfl,hq,hs,hel,hf⟩:=h
 obtain⟨q',es',e1,hs',hes'⟩:=hr
 cases e1
 rw[hs]at hs'
 injection hs' with hs'
 injection hs' with _ hs'
 subst hs'
 obtain⟨f1,f2,f3⟩:=hf a row ha
 have hfr:f a=r:=by
  rw[f1]at hes'
  simpa using hes'
 have hne:r≠q:=by rintro rfl;rw[hl]at hq;simp at hq
 refine⟨q,f,es,by rw[addAt,List.length_modify],hq,by rw[Kt hne];exact hs,by rw[addAt,List.length_modify];exact hel,λj y hj=>?_⟩
 obtain⟨x,hx,rfl⟩:=modify_get hj
 obtain⟨g1,g2,g3⟩:=hf j x hx
 by_cases haj:a=j
 ·subst haj
  rw[ha]at hx
  cases hx
  rw[if_pos rfl,hfr,List.length_modify]
  rw[hfr]at g1 g2 g3
  exact⟨g1,g2,Uf (lt_of_get g3)⟩
 ·rw[if_neg haj]
  refine⟨g1,g2,?_⟩
  rw[Kt]
  ·exact g3
  ·intro e
   rw[e,g2]at hl
   simp at hl
   omega
/-! ### The program's inventory -/
abbrev legCells (x:Leg) (d:D):List D:=[.str x.cfg.equip,.sl 4 (x.cfg.cabs.map Cab.enc) x.cfg.cabsx,d,.bool x.closed]
def LegAt (S:List Ob) (lab:Lab) (o i p:Nat) (x:Leg):Prop:=
 lab p=[o,1,i]/\∃d,S[p]?=some (.row 4 [legCells x d])/\TabAt S lab o i d x.sold
structure StkAt (S:List Ob) (lab:Lab) (o:Nat) (kt:TypeId) (d:D) (s:Stk) (k m:Nat) (ps:List (D×D)):Prop where
 dat:d=.loc k 0 0
 labk:lab k=[o,0]
 labm:lab m=[o,4]
 row:S[k]?=some (.row 2 [[.sl 2 (s.l.map Cfg.enc) s.x,.map m]])
 map:S[m]?=some (.map kt ps)
 len:ps.length=s.legs.length
 leg:∀(i:Nat) (id:Lid) (x:Leg),s.legs[i]?=some (id,x)->∃p,ps[i]?=some (.agg id.enc,.loc p 0 0)/\LegAt S lab o i p x
theorem LegAt.keep {S T:List Ob} {lab lab':Lab} {o i p:Nat} {x:Leg} (h:LegAt S lab o i p x) (g:KeepO o S lab T lab'):LegAt T lab' o i p x:=by
 obtain⟨h1,d,h2,h3⟩:=h
 obtain⟨g1,g2⟩:=g p _ _ h2 h1
 refine⟨g2,d,g1,h3.keep λy ob tl hy hl=>?_⟩
 rcases hl with hl | ⟨j,hl⟩
 ·obtain⟨g1,g2⟩:=g y _ _ hy hl
  exact⟨g1,by rw[g2,hl]⟩
 ·obtain⟨g1,g2⟩:=g y _ _ hy hl
  exact⟨g1,by rw[g2,hl]⟩
theorem StkAt.keep {S T:List Ob} {lab lab':Lab} {o:Nat} {kt:TypeId} {d:D} {s:Stk} {k m:Nat} {ps:List (D×D)} (h:StkAt S lab o kt d s k m ps) (g:KeepO o S lab T lab'):StkAt T lab' o kt d s k m ps where
 dat:=h.dat
 labk:=(g k _ _ h.row h.labk).2
 labm:=(g m _ _ h.map h.labm).2
 row:=(g k _ _ h.row h.labk).1
 map:=(g m _ _ h.map h.labm).1
 len:=h.len
 leg i id x hx:=by
  obtain⟨p,h1,h2⟩:=h.leg i id x hx
  exact⟨p,h1,h2.keep g⟩
/-! ### Keys -/
theorem key_eq (a b:Lid):Yz (.agg a.enc) (.agg b.enc)=decide (a=b):=by
 cases a;cases b
 simp only[Yz,Lid.enc,kBeqs,kBeq,Ua,Lid.mk.injEq,WY]
 rw[Bool.eq_iff_iff]
 simp
theorem look_go {S:List Ob} {lab:Lab} {o:Nat} {id:Lid}:∀(ps:List (D×D)) (legs:List (Lid×Leg)) (n:Nat),ps.length=legs.length->(∀(i:Nat) (id:Lid) (x:Leg),legs[i]?=some (id,x)->∃p,ps[i]?=some (.agg id.enc,.loc p 0 0)/\LegAt S lab o (i+n) p x)->
  (getL legs id=none/\Jp ps (.agg id.enc)=none)∨∃i x p,legs[i]?=some (id,x)/\(∀j y,j<i->legs[j]?=some y->y.1≠id)/\getL legs id=some x/\Jp ps (.agg id.enc)=some (.loc p 0 0)/\ps[i]?=some (.agg id.enc,.loc p 0 0)/\LegAt S lab o (i+n) p x
 | [],[],_,_,_=>.inl ⟨rfl,rfl⟩
 |q::ps,(id',x)::legs,n,hl,h=>by
  obtain⟨p,h1,h2⟩:=h 0 id' x rfl
  have hq:q=(.agg id'.enc,.loc p 0 0):=by simpa using h1
  subst hq
  by_cases e:id'=id
  ·subst e
   refine .inr ⟨0,x,p,rfl,λj y hj=>by omega,?_,?_,rfl,h2⟩
   ·simp[getL]
   ·simp[Jp,key_eq]
  ·have hk:Yz (.agg id'.enc) (.agg id.enc)=false:=by rw[key_eq];exact Ud e
   rcases look_go ps legs (n+1) (by simpa using hl) (λi id x hx=>by
    obtain⟨p,h1,h2⟩:=h (i+1) id x (by simpa using hx)
    exact⟨p,by simpa using h1,by rw[show i+(n+1)=i+1+n by omega];exact h2⟩) with ⟨g1,g2⟩ | ⟨i,y,p',g1,g0,g2,g3,g4,g5⟩
   ·refine .inl ⟨?_,?_⟩
    ·simpa [getL,e] using g1
    ·simpa [Jp,hk] using g2
   ·refine .inr ⟨i+1,y,p',by simpa using g1,λj y hj hy=>?_,?_,?_,by simpa using g4,by rw[show i+1+n=i+(n+1) by omega];exact g5⟩
    ·cases j with
     |zero=>have:(id',x)=y:=by simpa using hy
            rw[<-this];exact e
     |succ j=>exact g0 j y (by omega) (by simpa using hy)
    ·simpa [getL,e] using g2
    ·simpa [Jp,hk] using g3
theorem StkAt.look {S:List Ob} {lab:Lab} {o:Nat} {kt:TypeId} {d:D} {s:Stk} {k m:Nat} {ps:List (D×D)} (h:StkAt S lab o kt d s k m ps) (id:Lid):
  (s.get id=none/\Jp ps (.agg id.enc)=none)∨∃i x p,s.legs[i]?=some (id,x)/\(∀j y,j<i->s.legs[j]?=some y->y.1≠id)/\s.get id=some x/\Jp ps (.agg id.enc)=some (.loc p 0 0)/\ps[i]?=some (.agg id.enc,.loc p 0 0)/\LegAt S lab o i p x:=by
 have:=look_go (id:=id) ps s.legs 0 h.len (λi id x hx=>h.leg i id x hx)
 exact this
end Go.Proofs.YtaklebjoenophaaGreat.Dm
