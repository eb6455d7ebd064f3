/-
  The machine at connecting times: how exactly an element matches, and the minimum.
  The machine at minimum connecting times: both programs find the same.
  The machine at calls of the inventory: Id, ids, equip, Class, Do.
  The machine at calls of the inventory: Do, New, Played, Right.
  A plan, cut behind its branchings.
  StockLimits as plain data: nothing is sold beyond the limits, and what is sold is what was sold less what was cancelled.
  The walks of StockExact, StockResizes and StockLimits: first what they share.
-/
import Derived.Test.YtkemehicndccmaaGreatDoorWq
import Derived.Test.YtkemehicndccmaaGreatDoorGw
import Derived.Test.YtkemehicndccmaaGreatDoorSkF
import Derived.Test.YtkemehicndccmaaGreatDoorSkC
import Derived.Test.YtkemehicndccmaaGreatDoorSkQ
set_option linter.unusedSimpArgs false
set_option linter.unusedVariables false
namespace Go.Proofs.YtkemehicndccmaaGreatDoor.Dm
open Go Gw
set_option linter.unusedSimpArgs false

structure Cnn where
 a:ByteArray
 i:ByteArray
 o:ByteArray
 m:Int
def Cnn.enc (c:Cnn):List D:=[.str c.a,.str c.i,.str c.o,.int .i64 c.m]
def emp:ByteArray:=ByteArray.mk #[]
def eqS (x y:ByteArray):Bool:=x.toList == y.toList
def fldS (x y:ByteArray):Option Bool:=if eqS x emp=true then none else some (eqS x y)
def wtS (p q r:Option Bool):Int:=
 match p,q,r with
 |some false,_,_=> -1
 |_,some false,_=> -1
 |_,_,some false=> -1
 |p,q,r=>(if p.isSome then 12 else 0)+(if q.isSome then 10 else 0)+(if r.isSome then 9 else 0)
def rkS (p q r:Option Bool):Int:=
 match p,q,r with
 |some false,_,_=> -1
 |_,some false,_=> -1
 |_,_,some false=> -1
 |p,q,r=>(if p.isSome then 110 else 0)+(if q.isSome then 101 else 0)+(if r.isSome then 100 else 0)
def obs:List (Option Bool):=[none,some true,some false]
structure Sgm where
 c:ByteArray
 n:Int
 d:Int
 f:ByteArray
 t:ByteArray
 dep:Int
 arr:Int
def Sgm.enc (s:Sgm):List D:=[.str s.c,.int .i64 s.n,.int .i64 s.d,.str s.f,.str s.t,.int .i64 s.dep,.int .i64 s.arr]
theorem cnn_pure (l:List Cnn):pureLL (l.map Cnn.enc)=true:=by
 induction l with
 |nil=>rfl
 |cons f fs ih=>rw[List.map_cons,pureLL_cons,ih];rfl
def minCF (w:Cnn→Int) (m b:Int):List Cnn→Int
 | []=>m
 |c::l=>if b<w c then minCF w c.m (w c) l else minCF w m b l
def wtC (p q r:ByteArray) (c:Cnn):Int:=wtS (fldS c.a p) (fldS c.i q) (fldS c.o r)
def rkC (p q r:ByteArray) (c:Cnn):Int:=rkS (fldS c.a p) (fldS c.i q) (fldS c.o r)
def minL (p q r:ByteArray) (l:List Cnn):Int:=minCF (wtC p q r) 60 (-1) l
def fitB (l:List Cnn) (a b:Sgm):Bool:=
 (a.t.toList == b.f.toList) && decide (minL a.t a.c b.c l≤b.dep-a.arr) && decide (b.dep-a.arr≤1440)
def Near (s:Sgm):Prop:= -1099511627776≤s.dep∧s.dep≤1099511627776∧ -1099511627776≤s.arr∧s.arr≤1099511627776
end Go.Proofs.YtkemehicndccmaaGreatDoor.Dm
namespace Go.Proofs.YtkemehicndccmaaGreatDoor.Dm
open Go Gw
set_option linter.unusedSimpArgs false
set_option linter.unusedSimpArgs false

/-! ### Resize keeps what is sold -/
/-! ### Identifiers, classes, equipments -/
def baS:ByteArray:=ByteArray.mk #[66,65]
def afS:ByteArray:=ByteArray.mk #[65,70]
def lhrS:ByteArray:=ByteArray.mk #[76,72,82]
def cdgS:ByteArray:=ByteArray.mk #[67,68,71]
def jfkS:ByteArray:=ByteArray.mk #[74,70,75]
def idF (k:Nat):Lid:=match k % 6 with
 |0=>⟨baS,2,9,lhrS⟩
 |1=>⟨baS,2,9,cdgS⟩
 |2=>⟨afS,7,9,cdgS⟩
 |3=>⟨baS,2,8,lhrS⟩
 |4=>⟨baS,11,8,lhrS⟩
 |_=>⟨baS,1,9,jfkS⟩
def clsN (k:Nat):ByteArray:=match k % 7 with
 |0=>ByteArray.mk #[89]
 |1=>ByteArray.mk #[77]
 |2=>ByteArray.mk #[81]
 |3=>ByteArray.mk #[70]
 |4=>ByteArray.mk #[89]
 |5=>ByteArray.mk #[77]
 |_=>ByteArray.mk #[88]
def isD (o:Option (D×List Ob)) (d:D):Bool:=match o with
 |some (x,_)=>beqD x d
 |none=>false
structure Cal where
 kind:Nat
 leg:Nat
 more:Nat
 eq:Nat
 cl:Nat
 n:Int
structure Cal.Ok (a:Cal):Prop where
 kind:a.kind≤255
 leg:a.leg≤255
 more:a.more≤255
 eq:a.eq≤255
 cl:a.cl≤255
 n1: -128≤a.n
 n2:a.n≤127
def Cal.enc (a:Cal):List D:=[.int .u8 a.kind,.int .u8 a.leg,.int .u8 a.more,.int .u8 a.eq,.int .u8 a.cl,.int .i8 a.n]
def idsF (a:Cal):List Lid:=if a.more % 4=0 then [idF a.leg,idF (a.more / 4)] else if a.more=255 then [] else [idF a.leg]
def xxxS:ByteArray:=ByteArray.mk #[88,88,88]
def equipF (l:List Cfg) (k:Nat):ByteArray:=if 200≤k∨l.length=0 then xxxS else ((l[k % l.length]?).map (·.equip)).getD xxxS
def doF (s:Stk) (a:Cal):Int×Stk:=match a.kind % 7 with
 |0=>s.open (idF a.leg) (equipF s.l a.eq)
 |1=>s.close (idF a.leg)
 |5=>s.cancel (idsF a) (clsN a.cl) a.n
 |6=>s.resize (idF a.leg) (equipF s.l a.eq)
 |_=>s.sell (idsF a) (clsN a.cl) a.n
theorem sell_l (s:Stk) (ids:List Lid) (cl:ByteArray) (w:Int):(s.sell ids cl w).2.l=s.l∧(s.sell ids cl w).2.x=s.x:=by
 unfold Stk.sell
 split
 ·exact⟨rfl,rfl⟩
 ·split <;> exact⟨rfl,rfl⟩
theorem open_l (s:Stk) (id:Lid) (e:ByteArray):(s.open id e).2.l=s.l∧(s.open id e).2.x=s.x:=by
 unfold Stk.open
 split
 ·exact⟨rfl,rfl⟩
 ·split <;> exact⟨rfl,rfl⟩
theorem callD_gen {call:Call} {st:Bool} {S:List Ob} {f:FuncId} {args:List D} (hm:E.mode f=.gen):callD E call st S f args=call f args S:=by
 unfold callD
 rw[hm]
section
variable {S : List Ob} {lab : Lab} {o k n : Nat} {s : Stk}
theorem SOpen_c {id:Lid} (hn:190≤n) (h:SAt S lab o k s) (hs:s.l.length≤100) (hc:CfgsOk s.l) (hid:id.Ok) (e:ByteArray):∃T lab',(∀st,callD E (dcall E n) st S 20 [.loc k 0 0,.agg id.enc,.str e]=some (.int .i64 (s.open id e).1,T))∧SAt T lab' o k (s.open id e).2∧Step o S lab T lab':=by
 obtain⟨q,rfl⟩:∃q,n=q+1:=⟨n-1,by omega⟩
 obtain⟨_,T,ho,rfl,lab',h1,h2⟩:=SOpen_d (n:=q) (by omega) h hs hc hid e
 exact⟨T,lab',fun st=>(callD_gen rfl).trans ho,h1,h2⟩
theorem Sell_c {ids:List Lid} (hn:210≤n) (h:SAt S lab o k s) (ok:StkOk 9999 s) (hl:ids.length≤20) (hids:∀id∈ids,id.Ok) {di:D} (hdi:FLs 4 Lid.enc di ids) (cl:ByteArray) (w:Int):∃T lab',(∀st,callD E (dcall E n) st S 23 [.loc k 0 0,di,.str cl,.int .i64 w]=some (.int .i64 (s.sell ids cl w).1,T))∧SAt T lab' o k (s.sell ids cl w).2∧Step o S lab T lab':=by
 obtain⟨q,rfl⟩:∃q,n=q+1:=⟨n-1,by omega⟩
 obtain⟨_,T,ho,rfl,lab',h1,h2⟩:=Sell_d (n:=q) (by omega) h ok hl hids hdi cl w
 exact⟨T,lab',fun st=>(callD_gen rfl).trans ho,h1,h2⟩
end

/-! ### Configurations without violations -/
structure GoodL (n:Nat) (l:List Cfg):Prop where
 len:l.length≤30
 ok:CfgsOk l
 good:∀(i:Nat) (x:Cfg),l[i]? =some x→CfgGood x∧inB x.equip ((l.take i).map (·.equip))=false
 z:∀c∈l,c.equip.size+21<n∧c.equip.size≤9223372036854775807∧∀y∈c.cabs,y.name.size+21<n∧y.name.size≤9223372036854775807∧∀z∈y.cls,z.code.size≤9223372036854775807
theorem good_of {n:Nat} {l:List Cfg} (hl:l.length≤30) (h:cfgL l l.length=[]) (hz:∀c∈l,CfgZ (n-1) c):GoodL n l:=
 ⟨hl,cfgs_ok h,fun i x hx=>cfg_good (cfgL_nil h i x (lt_of_get hx) hx),fun c hc=>by
  have h1:=hz c hc
  have h2:=h1.eq
  exact⟨by omega,h2.2,fun y hy=>by
   have h3:=h1.nm y hy
   exact⟨by omega,h3.2,fun z hz'=>(h1.cl y hy z hz').2⟩⟩⟩
section
variable {S : List Ob} {lab : Lab} {o n : Nat}
theorem New_c {l:List Cfg} {lx:Bool} (hn:320≤n) (hg:GoodL (n-1) l) (hf:FreshL S lab):∃T lab' k,(∀st,callD E (dcall E n) st S 19 [.sl 2 (l.map Cfg.enc) lx]=some (.tup [.loc k 0 0,.nils],T))∧SAt T lab' o k ⟨l,lx,[]⟩∧Step o S lab T lab':=by
 obtain⟨m,rfl⟩:∃m,n=m+1:=⟨n-1,by omega⟩
 have cc:=Check_good_c (n:=m) (lx:=lx) (by omega) hg.len hg.good hg.z
 have:WO (dcall E (m+1) 19 [.sl 2 (l.map Cfg.enc) lx] S) fun d T=>d=.tup [.loc (S++[Ob.map kL []]).length 0 0,.nils]∧T=S++[Ob.map kL []]++[.row 2 [[.sl 2 (l.map Cfg.enc) lx,.map S.length]]]:=by
  refine wo_dcall Tryz.func19 rfl (by decide) rfl 15 rfl (fun a hal ha=>?_)
  have h0:a[0]? =some (.sl 2 (l.map Cfg.enc) lx):=ha 0 (by simp)
  clear ha
  simp(maxSteps:=1000000)(disch:=omega)only[push_cast,gt_iff_lt,hal,h0,cc,Tryz.f19,↓WX,simprocAttr]
 obtain⟨d,T,ho,rfl,rfl⟩:=this
 have hL:(S++[Ob.map kL []]).length=S.length+1:=by simp
 have s1:=Step.add (o:=o) hf (Ob.map kL []) [o,4]
 have s2:=Step.add (o:=o) s1.fresh (.row 2 [[.sl 2 (l.map Cfg.enc) lx,.map S.length]]) [o,0]
 refine⟨_,_,(S++[Ob.map kL []]).length,fun st=>(callD_gen rfl).trans ho,⟨s2.fresh,S.length,[],?_⟩,s1.trans s2⟩
 exact {
  dat:=rfl
  labk:=setL_self
  labm:=by rw[setL_ne (by omega),setL_self]
  row:=get_end
  map:=get_end0
  len:=rfl
  leg:=fun i id x h=>by simp at h }
def playF (s:Stk) (acts:List Cal):Stk:=acts.foldl (fun s a=>(doF s a).2) s
end

/-! ### Right -/
def smallC (c:Cfg):Bool:=decide (c.cabs.length≤8) && c.cabs.all fun y=>decide (y.cls.length≤30)
def smallB (l:List Cfg):Bool:=decide (l.length≤8) && l.all smallC
theorem all_false {α:Type} {l:List α} {p:α→Bool} {i:Nat} {x:α} (hx:l[i]? =some x) (hp:p x=false):l.all p=false:=by
 rw[List.all_eq_false]
 exact⟨x,List.mem_of_getElem? hx,by simp[hp]⟩
end Go.Proofs.YtkemehicndccmaaGreatDoor.Dm
namespace Go.Proofs.YtkemehicndccmaaGreatDoor.Dm
open Go

theorem set_sorti {α:Type} {l:List α} {i j:Nat} {x y:α} (h:j<i):(l.set i x).set j y=(l.set j (id y)).set i x:=List.set_comm _ _ (Nat.ne_of_gt h)
def Plan.andThen:Plan→Plan→Plan
 | .done,r=>r
 | .step i p,r=>.step i (p.andThen r)
 | .both p q,r=>.both (p.andThen r) (q.andThen r)
theorem planD_then {E:Env} {call:Call} {ops:Array Oper} {L:List Nat} {b:Nat} {r:Plan}:∀ {p:Plan} {a a':List D} {S S':List Ob},planD E call ops L b p a S=some (a',S')→∀ {z:List D×List Ob},planD E call ops L b r a' S'=some z→planD E call ops L b (p.andThen r) a S=some z
 | .done,a,a',S,S',h,z,hz=>by
  simp only[planD,Option.some.injEq,Prod.mk.injEq]at h
  obtain⟨rfl,rfl⟩:=h
  exact hz
 | .step i p,a,a',S,S',h,z,hz=>by
  unfold Plan.andThen
  rw[planD]at h ⊢
  split at h
  ·rename_i o ho
   try rw[ho]
   try dsimp only
   cases hd:stepW E call ops L b i o a S with
   |none=>rw[hd]at h;cases h
   |some w=>
    rw[hd]at h
    exact planD_then (p:=p) h hz
  ·cases h
 | .both p q,a,a',S,S',h,z,hz=>by
  unfold Plan.andThen
  rw[planD]at h ⊢
  cases h1:planD E call ops L b p a S with
  |none=>rw[h1]at h;cases h
  |some x=>
   cases h2:planD E call ops L b q a S with
   |none=>rw[h1,h2]at h;cases h
   |some y=>
    rw[h1,h2]at h
    obtain⟨x1,x2⟩:=x
    obtain⟨y1,y2⟩:=y
    dsimp only at h
    split at h
    ·rename_i hb
     rw[Bool.and_eq_true]at hb
     have e1:=beqL_eq _ _ hb.1
     have e2:=beqS_eq hb.2
     subst e1 e2
     cases h
     rw[planD_then h1 hz,planD_then h2 hz]
     simp only[beqL_refl,beqS_refl,Bool.and_self,if_true]
    ·cases h
theorem wp_then {E:Env} {call:Call} {ops:Array Oper} {L:List Nat} {b:Nat} {p r:Plan} {a:List D} {S:List Ob} {Q:Post} (h:WR (planD E call ops L b p a S) fun a' S'=>WR (planD E call ops L b r a' S') Q):WR (planD E call ops L b (p.andThen r) a S) Q:=by
 obtain⟨a',S',h1,b',T',h2,hq⟩:=h
 exact⟨b',T',planD_then h1 h2,hq⟩
section
variable {call : Call} {ops : Array Oper} {a : List D} {S : List Ob} {Q : Post} {L : List Nat}
end

end Go.Proofs.YtkemehicndccmaaGreatDoor.Dm
namespace Go.Proofs.YtkemehicndccmaaGreatDoor.Dm
open Go Gw
set_option linter.unusedSimpArgs false

def InLim (x:Leg):Prop:=∀(i:Nat) (y:Cab) (r:List Int),x.cfg.cabs[i]? =some y→x.sold[i]? =some r→∀j,j<r.length→0≤spF y r j
def totF (s:Stk) (id:Lid):Int:=match s.get id with
 |none=>0
 |some x=>tot x
def LimOk (s:Stk):Prop:=∀id x,s.get id=some x→InLim x
theorem addL_lim {l:List Cfg} {B:Int} {x:Leg} (ok:LegOk l B x) (h:InLim x) {cl:ByteArray} {w:Int} (hw:w≤0∨w≤leftF x cl):InLim (addL cl w x):=by
 unfold addL
 rcases hp:placeF cl 0 x.cfg.cabs with _ | ⟨a,b⟩
 ·exact h
 obtain⟨y,r,z,v,e1,e2,e3,e4,e5,e6,e7⟩:=ok.at_ hp
 have hb:b<r.length:=lt_of_get e5
 intro i y' r' hy hr j hj
 dsimp only at hy hr
 unfold addAt at hr
 obtain⟨r0,hr0,rfl⟩:=modify_get hr
 by_cases e:a=i
 ·subst e
  rw[e1]at hy
  cases hy
  rw[e2]at hr0
  cases hr0
  rw[if_pos rfl]at hj ⊢
  rw[List.length_modify]at hj
  rw[spF_add y r b w j hb]
  have h0:=h a y r e1 e2 j hj
  by_cases hjb:j≤b
  ·rw[if_pos hjb]
   rcases hw with hw |hw
   ·omega
   ·have hl:leftF x cl=max 0 (avF y r b):=by
     unfold leftF
     rw[hp]
     dsimp only
     rw[e1,e2]
    have:=avF_le (y:=y) (r:=r) hjb
    omega
  ·rw[if_neg hjb];omega
 ·rw[if_neg e]at hj ⊢
  exact h i y' r0 hy hr0 j hj
theorem sell_inv {s:Stk} {ids:List Lid} {cl:ByteArray} {w:Int} (h:(s.sell ids cl w).1=0):(s.sell ids cl w).2={ s with legs:=addIds cl w ids s.legs }∧s.named ids cl w true=0∧∀id∈ids,∀x,s.get id=some x→w≤leftF x cl:=by
 unfold Stk.sell at h ⊢
 split at h
 ·rename_i h1;exact absurd h h1
 ·rename_i h1
  rw[if_neg h1]
  split at h
  ·simp at h
  ·rename_i h2
   rw[if_neg h2]
   refine⟨rfl,Classical.not_not.1 h1,fun id hid x hx=>?_⟩
   rw[Bool.not_eq_true,List.any_eq_false]at h2
   have:=h2 id hid
   rw[hx]at this
   simp at this
   exact this
theorem emptyF_lim {l:List Cfg} (hl:CfgsOk l) {c:Cfg} (hc:c∈l):InLim ⟨c,false,emptyF c⟩:=by
 intro i y r hy hr j hj
 dsimp only at hy hr
 unfold emptyF at hr
 rw[List.getElem?_map,hy]at hr
 have hr:List.replicate y.cls.length (0:Int)=r:=by simpa using hr
 subst hr
 have hyo:=(hl.cfg c hc).cab y (List.mem_of_getElem? hy)
 have:=limF_pos hyo j
 unfold spF
 rw[List.drop_replicate,sum_rep]
 omega
theorem emptyF_tot (c:Cfg):tot ⟨c,false,emptyF c⟩=0:=sum_emptyF c.cabs
theorem open_lim {B:Int} {s:Stk} (ok:StkOk B s) (h:LimOk s) (id:Lid) (e:ByteArray):LimOk (s.open id e).2∧∀id',totF (s.open id e).2 id'=totF s id':=by
 unfold Stk.open
 split
 ·exact⟨h,fun _=>rfl⟩
 ·rename_i h1
  split
  ·exact⟨h,fun _=>rfl⟩
  ·rename_i c hc
   have hcm:=(findF_mem hc).1
   have hn:getL s.legs id=none:=by
    have:(s.get id).isSome=false:=by simpa using h1
    rcases e:s.get id with _ |y
    ·exact e
    ·rw[e]at this;cases this
   have hg:∀id',getL (s.legs++[(id,(⟨c,false,emptyF c⟩:Leg))]) id'=(getL s.legs id').or (if id=id' then some ⟨c,false,emptyF c⟩ else none):=fun id'=>getL_app _ _ _ _
   refine⟨fun id' x hx=>?_,fun id'=>?_⟩
   ·have hx:getL (s.legs++[(id,(⟨c,false,emptyF c⟩:Leg))]) id'=some x:=hx
    rw[hg]at hx
    rcases e':getL s.legs id' with _ |x0
    ·rw[e']at hx
     by_cases ee:id=id'
     ·rw[if_pos ee]at hx
      cases hx
      exact emptyF_lim ok.cfgs hcm
     ·rw[if_neg ee]at hx;cases hx
    ·rw[e']at hx
     cases hx
     exact h id' _ e'
   ·unfold totF
    show (match getL (s.legs++[(id,(⟨c,false,emptyF c⟩:Leg))]) id' with |none=>0 |some x=>tot x)=(match getL s.legs id' with |none=>0 |some x=>tot x)
    rw[hg]
    generalize getL s.legs id'=q
    rcases q with _ |x0
    ·by_cases ee:id=id'
     ·rw[if_pos ee];exact emptyF_tot c
     ·rw[if_neg ee];rfl
    ·rfl
/-! ### What is wanted -/
def byF (a:Cal):Int:=if a.kind % 7=5 then -a.n else a.n
def addW (ws:List Int) (k:Nat) (b:Int):List Int:=ws.set k (ws.getD k 0+b)
def wantS (ws:List Int) (a:Cal):List Int:=if a.more % 4=0 then addW (addW ws (a.leg % 6) (byF a)) (a.more / 4 % 6) (byF a) else addW ws (a.leg % 6) (byF a)
def limS (p:Stk×List Int) (a:Cal):Stk×List Int:=
 if a.kind % 7=6 then p else if (doF p.1 a).1≠0∨a.kind % 7<2 then ((doF p.1 a).2,p.2) else ((doF p.1 a).2,wantS p.2 a)
structure LimInv (B:Int) (p:Stk×List Int):Prop where
 ok:StkOk B p.1
 lim:LimOk p.1
 len:p.2.length=6
 want:∀k v,p.2[k]? =some v→v=totF p.1 (idF k)
def limF6 (l:List Cfg) (x:Bool) (acts:List Cal):Stk×List Int:=acts.foldl limS (⟨l,x,[]⟩,List.replicate 6 0)
set_option linter.unusedSimpArgs false

section
variable {S : List Ob} {lab : Lab} {o k m n : Nat} {s : Stk} {ps : List (D × D)} {id : Lid}
def soldV (s:Stk) (id:Lid):List Int:=(s.counts id).map (·.2)
end
/-! ### Resize as plain data -/
/-! ### StockExact -/
end Go.Proofs.YtkemehicndccmaaGreatDoor.Dm
