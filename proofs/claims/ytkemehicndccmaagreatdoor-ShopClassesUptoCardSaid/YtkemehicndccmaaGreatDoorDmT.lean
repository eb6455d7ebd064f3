/-
  Plans of great regions, checked on tables of numbers.
  The machine of XDm at this seat's program: lists of functions by mode, plans.
  The regions that are run by plans: checked on tables of numbers.
  The machine of XDm at this seat's program: all regions are checked.
  The machine of XDm at this seat's program is sound.
  The frame of the laws whose listed variables no run of theirs reads: the world in which they lie as the program's text lays them.
-/
import Derived.Test.YtkemehicndccmaaGreatDoorDmG
import Derived.Test.YtkemehicndccmaaGreatDoorDmH
import Derived.Test.YtkemehicndccmaaGreatDoorProg
import Derived.KernelRfl
import Derived.DeepKeys4
import Derived.Test.YtkemehicndccmaaGreatDoorMw
import Derived.Test.YtkemehicndccmaaGreatDoorRows
import Derived.ProofKit
import Derived.LaidMore
import Derived.OpenShut
import Derived.ShutString
import Derived.Stop.Joined
import Derived.Lib.LaidTab
set_option linter.unusedSimpArgs false
set_option linter.unusedVariables false
namespace Go.Proofs.YtkemehicndccmaaGreatDoor.Dm
open Go

def aftL (ops:Array Oper):List (List Nat):=ops.toList.map fun o=>(o.after.toList.filter fun e=>Region.binds .any e).map (·.on)
def readyM (n:Nat) (aft:List (List Nat)) (m:Nat):List Nat:=(List.range n).filter fun i=> !m.testBit i && ((aft[i]?).map (·.all m.testBit)).getD false
def freeM (n:Nat) (bf com:List Nat) (L:List Nat) (m i:Nat):Bool:=(slotN L i).isNone && (List.range n).all fun j=>j == i || m.testBit j || (bf.getD j 0).testBit i || (com.getD i 0).testBit j
def planM (n:Nat) (aft:List (List Nat)) (bf com:List Nat) (L:List Nat):Bool→Nat→Nat→Plan→Bool
 |false,0,m,.done=>(readyM n aft m).isEmpty
 |inB,f+1,m,.step i p=>(readyM n aft m).contains i && (inB || readyM n aft m == [i] || freeM n bf com L m i) && planM n aft bf com L false f (m ||| 2 ^ i) p
 |inB,f+1,m,.both p q=>(inB || (!(readyM n aft m).isEmpty && (readyM n aft m).all fun i=>(p.heads++q.heads).contains i)) && planM n aft bf com L true (f+1) m p && planM n aft bf com L true (f+1) m q
 |_,_,_,_=>false
def comOk (E:Env) (ops:Array Oper) (com:List Nat):Bool:=
 ops.zipIdx.toList.all fun (x,i)=>ops.zipIdx.toList.all fun (y,j)=> !(com.getD i 0).testBit j || (okPair (clO E true x.op) (clO E true y.op) && x.apart ops y)
structure LiM (n:Nat) (listed:Array Bool) (m:Nat):Prop where
 size:listed.size=n
 at_:∀i,i<n→listed[i]? =some (m.testBit i)
 out:∀i,n≤i→m.testBit i=false
theorem LiM.getF {n m i:Nat} {listed:Array Bool} (h:LiM n listed m):listed.getD i false=m.testBit i:=by
 rw[Array.getD_eq_getD_getElem?]
 by_cases hi:i<n
 ·rw[h.at_ i hi];rfl
 ·rw[Array.getElem?_eq_none (by rw[h.size];omega),h.out i (by omega)];rfl
theorem LiM.getT {n m i:Nat} {listed:Array Bool} (h:LiM n listed m) (hi:i<n):listed.getD i true=m.testBit i:=by
 rw[Array.getD_eq_getD_getElem?,h.at_ i hi];rfl
theorem LiM.put {n m i:Nat} {listed:Array Bool} (h:LiM n listed m) (hi:i<n):LiM n (listed.setIfInBounds i true) (m ||| 2 ^ i) where
 size:=by rw[Array.size_setIfInBounds];exact h.size
 at_ j hj:=by
  rw[Nat.testBit_or,Nat.testBit_two_pow]
  by_cases e:i=j
  ·subst e
   rw[Array.getElem?_setIfInBounds_self_of_lt (by rw[h.size];exact hi)]
   simp
  ·rw[Array.getElem?_setIfInBounds_ne e,h.at_ j hj]
   simp[e]
 out j hj:=by
  rw[Nat.testBit_or,Nat.testBit_two_pow,h.out j hj]
  have:¬i=j:=by omega
  simp[this]
theorem LiM.none (n:Nat):LiM n (Array.replicate n false) 0 where
 size:=by simp
 at_ i hi:=by simp[hi]
 out i _:=by simp
theorem after_all {P:Nat→Bool}:∀(l:List Edge),(l.all fun e=> !Region.binds .any e || P e.on)=((l.filter fun e=>Region.binds .any e).map (·.on)).all P
 | []=>rfl
 |e::l=>by
  rw[List.all_cons,after_all l,List.filter_cons]
  cases h:Region.binds .any e <;> simp[h]
theorem ready_eq {ops:Array Oper} {aft:List (List Nat)} (ha:aftL ops=aft) {listed:Array Bool} {m:Nat} (h:LiM ops.size listed m):Region.ready .any ops listed=readyM ops.size aft m:=by
 subst ha
 unfold Region.ready readyM
 refine List.filter_congr fun i hi=>?_
 have hi:=List.mem_range.1 hi
 rw[h.getT hi]
 congr 1
 unfold aftL
 rw[List.getElem?_map,Array.getElem?_toList]
 rcases e:ops[i]? with _ |o
 ·rfl
 ·simp only[Option.map_some,Option.getD_some]
  rw[←Array.all_toList]
  have:(fun e:Edge=> !Region.binds .any e || listed.getD e.on false)=fun e=> !Region.binds .any e || m.testBit e.on:=by
   funext e;rw[h.getF]
  rw[this,after_all]
theorem free_of {E:Env} {ops:Array Oper} {bf com L:List Nat} (hc:comOk E ops com=true) {listed:Array Bool} {m i:Nat} (h:LiM ops.size listed m) (hf:freeM ops.size bf com L m i=true) (hi:i<ops.size):freeAt E ops bf.toArray L listed i=true:=by
 unfold freeM at hf
 unfold freeAt
 rw[Bool.and_eq_true]at hf ⊢
 refine⟨hf.1,?_⟩
 rw[List.all_eq_true] at*
 intro j hj
 have hjn:=List.mem_range.1 hj
 have hq:=hf.2 j hj
 rw[h.getT hjn]
 simp only[Bool.or_eq_true]at hq ⊢
 rcases hq with ((hq |hq) |hq) |hq
 ·exact .inl (.inl (.inl hq))
 ·exact .inl (.inl (.inr hq))
 ·refine .inl (.inr ?_)
  rw[Array.getD_eq_getD_getElem?,List.getElem?_toArray,←List.getD_eq_getElem?_getD]
  exact hq
 ·refine .inr ?_
  rw[Array.getElem?_eq_getElem hi,Array.getElem?_eq_getElem hjn]
  dsimp only
  have h1:=List.all_eq_true.1 hc (ops[i],i) (by
   rw[List.mem_iff_getElem?]
   exact⟨i,by rw[Array.getElem?_toList,Array.getElem?_zipIdx,Array.getElem?_eq_getElem hi];simp⟩)
  have h2:=List.all_eq_true.1 h1 (ops[j],j) (by
   rw[List.mem_iff_getElem?]
   exact⟨j,by rw[Array.getElem?_toList,Array.getElem?_zipIdx,Array.getElem?_eq_getElem hjn];simp⟩)
  dsimp only at h2
  rw[hq]at h2
  simpa using h2
theorem planM_ok {E:Env} {ops:Array Oper} {aft:List (List Nat)} {bf com L:List Nat} (ha:aftL ops=aft) (hc:comOk E ops com=true):∀(p:Plan) (inB:Bool) (f m:Nat) (listed:Array Bool),LiM ops.size listed m→planM ops.size aft bf com L inB f m p=true→planOk E ops bf.toArray L inB f listed p=true
 | .done,inB,f,m,listed,h,hp=>by
  cases inB <;> cases f <;> simp only[planM,Bool.false_eq_true]at hp
  unfold planOk
  rw[ready_eq ha h];exact hp
 | .step i p,inB,f,m,listed,h,hp=>by
  cases f with
  |zero=>cases inB <;> simp[planM]at hp
  |succ f=>
   have hp':((readyM ops.size aft m).contains i && (inB || readyM ops.size aft m == [i] || freeM ops.size bf com L m i) && planM ops.size aft bf com L false f (m ||| 2 ^ i) p)=true:=by cases inB <;> exact hp
   simp only[Bool.and_eq_true]at hp'
   obtain⟨⟨h1,h2⟩,h3⟩:=hp'
   have hi:i<ops.size:=by
    have:=List.contains_iff_mem.1 h1
    unfold readyM at this
    exact List.mem_range.1 (List.mem_filter.1 this).1
   have h3:=planM_ok ha hc p false f _ _ (h.put hi) h3
   have:((Region.ready .any ops listed).contains i && (inB || Region.ready .any ops listed == [i] || freeAt E ops bf.toArray L listed i) && planOk E ops bf.toArray L false f (listed.setIfInBounds i true) p)=true:=by
    rw[ready_eq ha h,h1,h3,Bool.true_and,Bool.and_true]
    simp only[Bool.or_eq_true]at h2 ⊢
    rcases h2 with h2 |h2
    ·exact .inl h2
    ·exact .inr (free_of hc h h2 hi)
   cases inB <;> exact this
 | .both p q,inB,f,m,listed,h,hp=>by
  cases f with
  |zero=>cases inB <;> simp[planM]at hp
  |succ f=>
   have hp':((inB || (!(readyM ops.size aft m).isEmpty && (readyM ops.size aft m).all fun i=>(p.heads++q.heads).contains i)) && planM ops.size aft bf com L true (f+1) m p && planM ops.size aft bf com L true (f+1) m q)=true:=by cases inB <;> exact hp
   simp only[Bool.and_eq_true]at hp'
   obtain⟨⟨h1,h2⟩,h3⟩:=hp'
   have h2:=planM_ok ha hc p true (f+1) _ _ h h2
   have h3:=planM_ok ha hc q true (f+1) _ _ h h3
   have:((inB || (!(Region.ready .any ops listed).isEmpty && (Region.ready .any ops listed).all fun i=>(p.heads++q.heads).contains i)) && planOk E ops bf.toArray L true (f+1) listed p && planOk E ops bf.toArray L true (f+1) listed q)=true:=by
    rw[ready_eq ha h,h1,h2,h3];rfl
   cases inB <;> exact this
theorem planR_of {E:Env} {ops:Array Oper} {n:Nat} {aft:List (List Nat)} {bf com L:List Nat} {p:Plan} (hn:ops.size=n) (ha:aftL ops=aft) (hb:(Region.before ops).toList=bf) (hah:aheadOk ops bf.toArray=true) (hc:comOk E ops com=true) (hp:planM n aft bf com L false n 0 p=true):planR E ops L p=true:=by
 subst hn
 have hb':Region.before ops=bf.toArray:=by rw[←hb]
 unfold planR
 rw[hb',hah,Bool.true_and]
 exact planM_ok ha hc p false _ 0 _ (LiM.none _) hp
def keyR (id:Nat) (ops:Array Oper):Nat:=id*1000+ops.size
def linT (E:Env) (T:List Nat):Code→Bool
 | .region id ops draw=>(draw && T.contains (keyR id ops)) || linC E (.region id ops draw)
 | .seq x y=>linT E T x && linT E T y
 | .cond _ x y=>linT E T x && linT E T y
 | .block _ c=>linT E T c
 | .loop c=>linT E T c
 | .scope c=>linT E T c
 |_=>true
def heavyIn (T:List Nat):Code→List (Nat×Array Oper)
 | .region id ops draw=>if draw && T.contains (keyR id ops) then [(id,ops)] else []
 | .seq x y=>heavyIn T x++heavyIn T y
 | .cond _ x y=>heavyIn T x++heavyIn T y
 | .block _ c=>heavyIn T c
 | .loop c=>heavyIn T c
 | .scope c=>heavyIn T c
 |_=>[]
theorem linT_ok {E:Env} {T:List Nat}:∀c:Code,linT E T c=true→(∀r∈heavyIn T c,linC E (.region r.1 r.2 true)=true)→linC E c=true:=by
 intro c
 induction c with
 |region id ops draw=>
  intro h k
  unfold linT at h
  rw[Bool.or_eq_true]at h
  rcases h with h |h
  ·have hd:draw=true:=by rw[Bool.and_eq_true]at h;exact h.1
   subst hd
   exact k (id,ops) (by unfold heavyIn;rw[if_pos h];simp)
  ·exact h
 |seq x y ihx ihy=>
  intro h k
  simp only[linT,Bool.and_eq_true]at h
  simp only[linC,ihx h.1 (fun r hr=>k r (by simp[heavyIn,hr])),ihy h.2 (fun r hr=>k r (by simp[heavyIn,hr])),Bool.and_self]
 |cond c x y ihx ihy=>
  intro h k
  simp only[linT,Bool.and_eq_true]at h
  simp only[linC,ihx h.1 (fun r hr=>k r (by simp[heavyIn,hr])),ihy h.2 (fun r hr=>k r (by simp[heavyIn,hr])),Bool.and_self]
 |block id c ih=>intro h k;exact ih h k
 |loop c ih=>intro h k;exact ih h k
 |scope c ih=>intro h k;exact ih h k
 |_=>intro h k;rfl
def findR (id n:Nat):Code→Option (Array Oper)
 | .region j ops draw=>if draw && (j == id && ops.size == n) then some ops else none
 | .seq x y=>(findR id n x).or (findR id n y)
 | .cond _ x y=>(findR id n x).or (findR id n y)
 | .block _ c=>findR id n c
 | .loop c=>findR id n c
 | .scope c=>findR id n c
 |_=>none
def opsAt (f:Option Func) (id n:Nat):Array Oper:=(((f.bind (·.body)).bind (findR id n))).getD #[]
end Go.Proofs.YtkemehicndccmaaGreatDoor.Dm
namespace Go.Proofs.YtkemehicndccmaaGreatDoor.Dm
open Go

def noFs:List Nat:=[]
def extFs:List Nat:=[9,10,27,51,145,135,146,55,110,111,67,70,26,28]
def obsFs:List Nat:=[11,59,30,73,49,53,52,64,62,114,61,136,137,134,29,68,69,72,71]
def genFs:List Nat:=[6,105,19,21,20,23,22,24,43,80]
def modeOf (f:Nat):Mode:=if noFs.contains f then .no else if extFs.contains f then .ext else if genFs.contains f then .gen else if obsFs.contains f then .obs else .pure
def keyTs:List Nat:=[9,50]
def ovlFs:List (Nat×Nat):=[]
def cntFs:List Nat:=[]
def idxFs:List Nat:=[]
def clnFs:List Nat:=[]
noncomputable def extOf (g:Nat):Option (List Ob→List D→Option (D×List Ob)):=if cntFs.contains g then some fun S l=>(dCount l).map (·,S) else if idxFs.contains g then some fun S l=>(dIndexB l).map (·,S) else if clnFs.contains g then some fun S l=>dClone S l else match ovlFs.find? fun p=>p.1 == g with
 |some p=>some fun S l=>(dOverlaps Tryz.prog S p.2 l).map (·,S)
 |none=>none
def steps:  List Nat→Plan→Plan
 | [],p=>p
 |i::l,p=>.step i (steps l p)
def planKey (id:Nat):List Oper→Nat
 | []=>id*1000
 |o::l=>id*1000+(l.length+1)+1000000*o.dst.getD 0
@[push_cast] theorem planKey_cons {id:Nat} {op:Op} {dst:Option Tmp} {g:Option (Nat×Bool)} {ft:Array Edge} {pos:String} {ty:TypeId} {l:List Oper}:planKey id ({ op:=op,dst:=dst,guard:=g,after:=ft,pos:=pos,type:=ty }::l)=id*1000+(l.length+1)+1000000*dst.getD 0:=rfl
def planL:  List (Nat×List Nat×Plan):=[
 (50009025,[],steps [0,1,2,3,4,5,6,7,8,9,10,12,13,14,18,19] (.both (steps [11,15,16,17,20,21,22,23,24] .done) (.both (steps [15] (.both (steps [11,16,17,20,21,22,23,24] .done) (.both (steps [16] (.both (steps [11,17,20,21,22,23,24] .done) (steps [20,21] (.both (steps [11,17,22,23,24] .done) (steps [22,11,17,23,24] .done))))) (steps [20,21] (.both (steps [11,16,17,22,23,24] .done) (.both (steps [16] (.both (steps [11,17,22,23,24] .done) (steps [22,11,17,23,24] .done))) (steps [22] (.both (steps [11,16,17,23,24] .done) (steps [16,11,17,23,24] .done))))))))) (steps [20,21] (.both (steps [11,15,16,17,22,23,24] .done) (.both (steps [15] (.both (steps [11,16,17,22,23,24] .done) (.both (steps [16] (.both (steps [11,17,22,23,24] .done) (steps [22,11,17,23,24] .done))) (steps [22] (.both (steps [11,16,17,23,24] .done) (steps [16,11,17,23,24] .done)))))) (steps [22] (.both (steps [11,15,16,17,23,24] .done) (steps [15] (.both (steps [11,16,17,23,24] .done) (steps [16,11,17,23,24] .done))))))))))),
 (106017015,[],steps [0,1,2,3,4,5,7,8,9,11] (.both (steps [6,10,12,13,14] .done) (.both (steps [10] (.both (steps [6,12,13,14] .done) (steps [12,6,13,14] .done))) (steps [12] (.both (steps [6,10,13,14] .done) (steps [10,6,13,14] .done)))))),
 (52015010,[],steps [0,1,3,4,2,5,6,7,8,9] .done),
 (0,[],.done)]
def planIds:  List Nat:=[
 50009025,
 106017015,
 52015010,
 0]
def planOf (id:Nat) (ops:Array Oper):Option (List Nat×Plan):=if planIds.contains (planKey id ops.toList) then (planL.find? fun p=>p.1 == planKey id ops.toList).map (·.2) else none
abbrev PrimF:=FuncId→Option (List D→List Ob→Option (D×List Ob))
noncomputable def envOf (pr:PrimF):Env:={ P:=Tryz.prog,G:=fun _=>none,mode:=modeOf,keys:=fun t=>keyTs.contains t,prim:=pr,ext:=extOf,plan:=planOf }
noncomputable abbrev E0:Env:=envOf fun _=>none
noncomputable def prim1 (f:FuncId):Option (List D→List Ob→Option (D×List Ob)):=
 none
noncomputable abbrev E1:Env:=envOf prim1
def primFs:List Nat:=[]
noncomputable def primOf (f:FuncId):Option (List D→List Ob→Option (D×List Ob)):=if primFs.contains f then some (fun args S=>match args with
 | []=>some (.bool true,S)
 |_::_=>none) else
 prim1 f
noncomputable abbrev E:Env:=envOf primOf
def linF (E:Env) (f:Nat):Bool:=
 match E.P.funcs[f]? with
 |some fn=>decide (E.mode f=.no) || (match fn.body with
  |some c=>linC E c
  |none=>true)
 |none=>true
def nameF (E:Env) (f:Nat):Bool:=
 match E.P.funcs[f]? with
 |some fn=>fn.name != "runtime.NumGoroutine"
 |none=>true
def heavyFs:List Nat:=[6,9]
theorem all_cons' {α:Type} {p:α→Bool} {a:α} {l:List α} (h1:p a=true) (h2:l.all p=true):(a::l).all p=true:=by rw[List.all_cons,h1,h2];rfl
theorem linC_plan {id:Nat} {ops:Array Oper} {L:List Nat} {p:Plan} (h:planOf id ops=some (L,p)) (h2:planR E0 ops L p=true):linC E0 (.region id ops true)=true:=by
 unfold linC
 show (!true || (match planOf id ops with
  |none=>linR E0 (strictR E0 ops) ops
  |some (L,p)=>planR E0 ops L p))=true
 rw[h];exact h2
def RegOk (r:Nat×Array Oper):Prop:=linC E0 (.region r.1 r.2 true)=true
theorem reg_nil:∀r∈([]:List (Nat×Array Oper)),RegOk r:=fun r h=>by cases h
theorem reg_cons {a:Nat} {b:Array Oper} {l:List (Nat×Array Oper)} (h:linC E0 (.region a b true)=true) (k:∀r∈l,RegOk r):∀r∈(a,b)::l,RegOk r:=fun r hr=>by
 rcases List.mem_cons.1 hr with e |hr
 ·rw[e];exact h
 ·exact k r hr
theorem linF_of {f:Nat} {fn:Func} {c:Code} {R:List (Nat×Array Oper)} (hf:Tryz.prog.funcs[f]? =some fn) (hb:fn.body=some c) (T:List Nat) (h1:linT E0 T c=true) (h2:heavyIn T c=R) (h3:∀r∈R,RegOk r):linF E0 f=true:=by
 unfold linF
 rw[show E0.P.funcs[f]? =some fn from hf]
 dsimp only
 rw[hb]
 dsimp only
 rw[linT_ok c h1 (fun r hr=>h3 r (h2 ▸ hr)),Bool.or_true]
end Go.Proofs.YtkemehicndccmaaGreatDoor.Dm
namespace Go.Proofs.YtkemehicndccmaaGreatDoor.Dm
open Go

theorem pl_50009025:linC E0 (.region 9 (opsAt (Tryz.prog.funcs[6]?) 9 25) true)=true:=
 linC_plan (L:=[]) (p:=steps [0,1,2,3,4,5,6,7,8,9,10,12,13,14,18,19] (.both (steps [11,15,16,17,20,21,22,23,24] .done) (.both (steps [15] (.both (steps [11,16,17,20,21,22,23,24] .done) (.both (steps [16] (.both (steps [11,17,20,21,22,23,24] .done) (steps [20,21] (.both (steps [11,17,22,23,24] .done) (steps [22,11,17,23,24] .done))))) (steps [20,21] (.both (steps [11,16,17,22,23,24] .done) (.both (steps [16] (.both (steps [11,17,22,23,24] .done) (steps [22,11,17,23,24] .done))) (steps [22] (.both (steps [11,16,17,23,24] .done) (steps [16,11,17,23,24] .done))))))))) (steps [20,21] (.both (steps [11,15,16,17,22,23,24] .done) (.both (steps [15] (.both (steps [11,16,17,22,23,24] .done) (.both (steps [16] (.both (steps [11,17,22,23,24] .done) (steps [22,11,17,23,24] .done))) (steps [22] (.both (steps [11,16,17,23,24] .done) (steps [16,11,17,23,24] .done)))))) (steps [22] (.both (steps [11,15,16,17,23,24] .done) (steps [15] (.both (steps [11,16,17,23,24] .done) (steps [16,11,17,23,24] .done))))))))))) (by as_aux_lemma=>kernel_rfl) (planR_of (n:=25) (aft:=[[],[],[],[1,2],[3],[4],[],[],[6,7],[8],[9],[0,5,10,5],[],[],[],[13,14],[15],[16,11],[],[],[18,19],[20],[21],[12,17,22,17],[11,23]]) (bf:=[0,0,0,6,14,30,0,0,192,448,960,2047,0,0,0,24576,57344,126975,0,0,786432,1835008,3932160,8388607,16777215]) (com:=[8255486,8255428,8255424,8255424,8255424,8255424,8253568,8253440,8253440,8253440,8253440,0,8382464,8144896,8128512,7340032,7340032,7340032,755712,231424,0,231424,0,0,0]) (by as_aux_lemma=>kernel_rfl) (by as_aux_lemma=>kernel_rfl) (by as_aux_lemma=>kernel_rfl) (by as_aux_lemma=>kernel_rfl) (by as_aux_lemma=>kernel_rfl) (by as_aux_lemma=>kernel_rfl))
theorem pl_106017015:linC E0 (.region 17 (opsAt (Tryz.prog.funcs[6]?) 17 15) true)=true:=
 linC_plan (L:=[]) (p:=steps [0,1,2,3,4,5,7,8,9,11] (.both (steps [6,10,12,13,14] .done) (.both (steps [10] (.both (steps [6,12,13,14] .done) (steps [12,6,13,14] .done))) (steps [12] (.both (steps [6,10,13,14] .done) (steps [10,6,13,14] .done)))))) (by as_aux_lemma=>kernel_rfl) (planR_of (n:=15) (aft:=[[],[],[],[2],[],[4],[0,1,3,5],[],[],[],[9],[],[11],[7,8,10,12,6],[6,13]]) (bf:=[0,0,0,4,0,16,63,0,0,0,512,0,2048,8191,16383]) (com:=[8126,8124,8112,8112,8064,8064,0,8000,7744,6208,4096,1088,0,0,0]) (by as_aux_lemma=>kernel_rfl) (by as_aux_lemma=>kernel_rfl) (by as_aux_lemma=>kernel_rfl) (by as_aux_lemma=>kernel_rfl) (by as_aux_lemma=>kernel_rfl) (by as_aux_lemma=>kernel_rfl))
theorem lin_airline_airlinelaw30_stocks:linF E0 6=true:=
 linF_of (R:=[(9,(opsAt (Tryz.prog.funcs[6]?) 9 25)),(17,(opsAt (Tryz.prog.funcs[6]?) 17 15))]) Tryz.func6 rfl [9025,17015] (by as_aux_lemma=>kernel_rfl) (by as_aux_lemma=>kernel_rfl) (reg_cons pl_50009025 (reg_cons pl_106017015 (reg_nil)))
theorem pl_52015010:linC E0 (.region 15 (opsAt (Tryz.prog.funcs[9]?) 15 10) true)=true:=
 linC_plan (L:=[]) (p:=steps [0,1,3,4,2,5,6,7,8,9] .done) (by as_aux_lemma=>kernel_rfl) (planR_of (n:=10) (aft:=[[],[],[1],[],[3],[4],[2,5,2],[6],[0,7,6],[8,8,0,1,2,3,4,5,6,7,8]]) (bf:=[0,0,2,0,8,24,62,126,255,511]) (com:=[254,56,32,4,4,0,0,0,0,0]) (by as_aux_lemma=>kernel_rfl) (by as_aux_lemma=>kernel_rfl) (by as_aux_lemma=>kernel_rfl) (by as_aux_lemma=>kernel_rfl) (by as_aux_lemma=>kernel_rfl) (by as_aux_lemma=>kernel_rfl))
theorem lin_airline_shop_Classes:linF E0 9=true:=
 linF_of (R:=[(15,(opsAt (Tryz.prog.funcs[9]?) 15 10))]) Tryz.func9 rfl [15010] (by as_aux_lemma=>kernel_rfl) (by as_aux_lemma=>kernel_rfl) (reg_cons pl_52015010 (reg_nil))
theorem lin_heavy:heavyFs.all (linF E0)=true:=by
 unfold heavyFs
 refine all_cons' lin_airline_airlinelaw30_stocks ?_
 refine all_cons' lin_airline_shop_Classes ?_
 exact rfl
end Go.Proofs.YtkemehicndccmaaGreatDoor.Dm
namespace Go.Proofs.YtkemehicndccmaaGreatDoor.Dm
open Go

theorem lin_light:(List.range Tryz.prog.funcs.size).all (fun f=>heavyFs.contains f || linF E0 f)=true:=by kernel_rfl
theorem lin_all:(List.range Tryz.prog.funcs.size).all (linF E0)=true:=by
 rw[List.all_eq_true]
 intro f hf
 have h:=List.all_eq_true.1 lin_light f hf
 rw[Bool.or_eq_true]at h
 rcases h with h |h
 ·exact List.all_eq_true.1 lin_heavy f (List.contains_iff_mem.1 h)
 ·exact h
theorem name_all:(List.range Tryz.prog.funcs.size).all (nameF E0)=true:=by kernel_rfl
end Go.Proofs.YtkemehicndccmaaGreatDoor.Dm
namespace Go.Proofs.YtkemehicndccmaaGreatDoor.Dm
open Go

theorem envOk0:EnvOk E0 where
 mixed:=by kernel_rfl
 names f fn hf:=by
  have hlt:f<Tryz.prog.funcs.size:=(Array.getElem?_eq_some_iff.1 hf).1
  have:=List.all_eq_true.1 name_all f (List.mem_range.2 hlt)
  unfold nameF at this
  rw[show E0.P.funcs[f]? =some fn from hf]at this
  simpa using this
 keys kt h:=by
  have hm:kt∈keyTs:=by simpa [E0,envOf] using h
  simp only[keyTs,List.mem_cons,List.not_mem_nil,or_false]at hm
  first
  | (rcases hm with rfl |rfl
     ·exact Maps.string_keyed Tryz.underlying9
     ·exact Maps.Keyed.of_law (deep_law_laid (m:=20) (by kernel_rfl) (by decide) (Nat.le_of_ble_eq_true (by kernel_rfl)) (by kernel_rfl) (by kernel_rfl)))
  | (subst hm;exact Maps.string_keyed Tryz.underlying9)
  | (subst hm;exact Maps.Keyed.of_law (deep_law_laid (m:=20) (by kernel_rfl) (by decide) (Nat.le_of_ble_eq_true (by kernel_rfl)) (by kernel_rfl) (by kernel_rfl)))
  |exact hm.elim
 lin f fn c hf hb hm:=by
  have hlt:f<Tryz.prog.funcs.size:=(Array.getElem?_eq_some_iff.1 hf).1
  have:=List.all_eq_true.1 lin_all f (List.mem_range.2 hlt)
  unfold linF at this
  rw[show E0.P.funcs[f]? =some fn from hf]at this
  dsimp only at this
  rw[hb]at this
  simpa [hm] using this
 globals g cs h:=by cases h
 prims f p h:=by cases h
 exts g p h:=by
  change extOf g=some p at h
  unfold extOf at h
  split at h
  ·rename_i hm
   have h':=(Option.some.inj h).symm
   clear h
   subst h'
   first
   | (exfalso;revert hm;simp[cntFs];done)
   |skip
  split at h
  ·rename_i hm
   have h':=(Option.some.inj h).symm
   clear h
   subst h'
   first
   | (exfalso;revert hm;simp[idxFs];done)
   |skip
  ·split at h
   ·rename_i hm
    have h':=(Option.some.inj h).symm
    clear h
    subst h'
    first
    | (exfalso;revert hm;simp[clnFs];done)
    |skip
   ·split at h
    ·rename_i q hq
     have h':=(Option.some.inj h).symm
     clear h
     subst h'
     have hm:=List.mem_of_find?_eq_some hq
     have he:q.1=g:=by simpa using List.find?_some hq
     subst he
     first
     | (exfalso;revert hm;simp[ovlFs];done)
     |skip
    ·cases h
theorem linR_prim (p q:FuncId→Option (List D→List Ob→Option (D×List Ob))) (b:Bool) (ops:Array Oper):linR (envOf p) b ops=linR (envOf q) b ops:=rfl
theorem freeAt_prim (p q:FuncId→Option (List D→List Ob→Option (D×List Ob))) (ops:Array Oper) (bf:Array Nat) (L:List Nat) (listed:Array Bool) (i:Nat):freeAt (envOf p) ops bf L listed i=freeAt (envOf q) ops bf L listed i:=rfl
theorem planOk_prim (p q:FuncId→Option (List D→List Ob→Option (D×List Ob))) (ops:Array Oper) (bf:Array Nat) (L:List Nat):∀(pl:Plan) (inB:Bool) (n:Nat) (listed:Array Bool),planOk (envOf p) ops bf L inB n listed pl=planOk (envOf q) ops bf L inB n listed pl
 | .done,inB,n,listed=>by cases inB <;> cases n <;> rfl
 | .step i pl,inB,n,listed=>by
  cases n with
  |zero=>cases inB <;> rfl
  |succ n=>
   rw[planOk,planOk,planOk_prim p q ops bf L pl,freeAt_prim p q]
 | .both a b,inB,n,listed=>by
  cases n with
  |zero=>cases inB <;> rfl
  |succ n=>
   rw[planOk,planOk,planOk_prim p q ops bf L a,planOk_prim p q ops bf L b]
theorem planR_prim (p q:FuncId→Option (List D→List Ob→Option (D×List Ob))) (ops:Array Oper) (L:List Nat) (pl:Plan):planR (envOf p) ops L pl=planR (envOf q) ops L pl:=by
 unfold planR
 rw[planOk_prim p q]
theorem linC_prim (p q:FuncId→Option (List D→List Ob→Option (D×List Ob))):∀c:Code,linC (envOf p) c=linC (envOf q) c:=by
 intro c
 induction c with
 |seq x y ihx ihy=>simp only[linC,ihx,ihy]
 |cond c x y ihx ihy=>simp only[linC,ihx,ihy]
 |block id c ih=>simp only[linC,ih]
 |loop c ih=>simp only[linC,ih]
 |scope c ih=>simp only[linC,ih]
 |region id ops draw=>
  have e1:(envOf p).plan=(envOf q).plan:=rfl
  unfold linC
  rw[e1]
  congr 1
  split
  ·exact linR_prim p q _ ops
  ·exact planR_prim p q _ _ _
 |_=>rfl
def isT0:Option (D×List Ob)→Bool
 |some (.bool b,_)=>b
 |_=>false
theorem isT0_spec {o:Option (D×List Ob)} (h:isT0 o=true):∃T,o=some (.bool true,T):=by
 unfold isT0 at h
 split at h
 ·subst h;exact⟨_,rfl⟩
 ·cases h
end Go.Proofs.YtkemehicndccmaaGreatDoor.Dm
namespace Go.Proofs.YtkemehicndccmaaGreatDoor
open Go.ChangeShapes Go.WideShapes Go.ChangeAt Go.RowKit

theorem own:ownKnob Tryz.prog.godebug=none:=by kernel_rfl
def tabLaid:List (String×DataW Unit):=[("math/bits.deBruijn32tab",Rows.laid_math_bits_deBruijn32tab),("math/bits.deBruijn64tab",Rows.laid_math_bits_deBruijn64tab),("internal/strconv.uint64pow10",Rows.laid_internal_strconv_uint64pow10)]
theorem tab_door (os:Os) (args:Array Value):laidMetH Tryz.prog tabLaid ((World.doorLaid Tryz.prog 1000 os).forCall (fun _ _=>0) ⟨#[],args,[]⟩).memory:=
 laidMetH_of_parts3 (fuel:=8) (laidMet_of_run' 8 (by kernel_rfl) (by kernel_rfl)) (by kernel_rfl) (by kernel_rfl)
end Go.Proofs.YtkemehicndccmaaGreatDoor
