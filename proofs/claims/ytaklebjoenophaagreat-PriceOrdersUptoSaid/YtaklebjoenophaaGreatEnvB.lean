/-
  The machine at this seat's program is sound: with the functions that are known by laws of their own.
  A plan, cut behind its branchings.
  The reference's calendar and periods: weekdays, bits, whether a day is in a period, its days, what two have in common; UTC; dates as text. Some answer of each.
-/
import Derived.Test.YtaklebjoenophaaGreatEnvH
import Derived.Test.YtaklebjoenophaaGreatWq
import Derived.Test.YtaklebjoenophaaGreatTfD
set_option linter.unusedSimpArgs false
set_option linter.unusedVariables false
namespace Go.Proofs.YtaklebjoenophaaGreat.Dm
open Go

theorem prim1_ok {f:FuncId} {p:List D→List Ob→Option (D×List Ob)} (hp:prim1 f=some p) {args:List D} {S S':List Ob} {d:D} (hd:p args S=some (d,S')) {W:World} {C:Cx} {vargs:Array Value} (hs:SR W C S) (hP:C.P=E0.P) (hG:GR W C E0.G) (hv:VRs W C args vargs.toList):
  (∃fn,E0.P.funcs[f]? =some fn∧fn.body.isSome=true)∧
  Calls E0.P f vargs W fun e W'=>∃v C',e=.returned v∧VR W' C' d v∧SR W' C' S'∧Fr W C S W' C' S':=by
 unfold prim1 at hp
 first
 | (cases hp;done)
 |skip
theorem envOk1:EnvOk E1 where
 mixed:=envOk0.mixed
 names:=envOk0.names
 keys:=envOk0.keys
 lin f fn c hf hb hm:=(linC_prim prim1 (fun _=>none) c).trans (envOk0.lin f fn c hf hb hm)
 globals:=envOk0.globals
 exts:=envOk0.exts
 prims f p hp args S d S' hd W C vargs hs hP hG hv:=prim1_ok hp hd hs hP hG hv
theorem prims_true:(primFs.all fun f=>isT0 (dcallX E1 200 f [] []))=true:=by kernel_rfl
theorem envOk:EnvOk E where
 mixed:=envOk0.mixed
 names:=envOk0.names
 keys:=envOk0.keys
 lin f fn c hf hb hm:=(linC_prim primOf (fun _=>none) c).trans (envOk0.lin f fn c hf hb hm)
 globals:=envOk0.globals
 exts:=envOk0.exts
 prims f p hp args S d S' hd W C vargs hs hP hG hv:=by
  change primOf f=some p at hp
  unfold primOf at hp
  split at hp
  ·rename_i hm
   obtain⟨T,hT⟩:=isT0_spec (List.all_eq_true.1 prims_true f (List.contains_iff_mem.1 hm))
   have h':=(Option.some.inj hp).symm
   subst h'
   cases args with
   |nil=>
    cases hd
    exact prim_closed envOk1 hT hs hP hG hv
   |cons a l=>cases hd
  exact prim1_ok hp hd hs hP hG hv
end Go.Proofs.YtaklebjoenophaaGreat.Dm
namespace Go.Proofs.YtaklebjoenophaaGreat.Dm
open Go

theorem set_sorti {α:Type} {l:List α} {i j:Nat} {x y:α} (h:j<i):(l.set i x).set j y=(l.set j (id y)).set i x:=List.set_comm _ _ (Nat.ne_of_gt h)
def Plan.andThen:Plan→Plan→Plan
 | .done,r=>r
 | .step i p,r=>.step i (p.andThen r)
 | .both p q,r=>.both (p.andThen r) (q.andThen r)
section
variable {call : Call} {ops : Array Oper} {a : List D} {S : List Ob} {Q : Post} {L : List Nat}
theorem wc_planL {n i:Nat} {l:List Oper} {p:Plan} {Q:PostX} (hp:planOf i l.toArray=some (L,p)):WC (codeD Dm.E call n (.region i l.toArray true) a S) Q=WR (planD Dm.E call l.toArray L S.length p a (S++List.replicate L.length .dead)) (Q .normal):=by
 have hc:codeD Dm.E call n (.region i l.toArray true) a S=match planD Dm.E call l.toArray L S.length p a (S++List.replicate L.length .dead) with
  |some (a',S')=>some (DX.normal,a',S')
  |none=>none:=by
  have hp':Dm.E.plan i l.toArray=some (L,p):=hp
  simp only[codeD,hp',if_true]
  rfl
 rw[hc]
 generalize planD Dm.E call l.toArray L S.length p a (S++List.replicate L.length .dead)=r
 rcases r with _ | ⟨a',S'⟩
 ·simp only[wc_none,wr_none]
 ·simp only[wc_some,wr_some]
theorem wp_doneL {b:Nat}:WR (planD Dm.E call ops L b .done a S) Q=Q a S:=wr_some
theorem wp_stepsL {b:Nat} {p:Plan}:∀ {l:List Nat} {ol:List Oper} {a:List D} {S:List Ob},l.map (fun i=>ops[i]?)=ol.map some→(∀i∈l,slotN L i=none)→WR (planD Dm.E call ops L b (steps l p) a S) Q=WR (runD Dm.E call true ops ol a S) fun a S=>WR (planD Dm.E call ops L b p a S) Q
 | [],[],a,S,_,_=>by simp only[steps,runD,wr_some]
 | [],o::ol,a,S,h,_=>by simp at h
 |i::l,[],a,S,h,_=>by simp at h
 |i::l,o::ol,a,S,h,hs=>by
  simp only[List.map_cons,List.cons.injEq]at h
  simp only[steps,planD,h.1,stepW,hs i (by simp),runD]
  rcases stepD Dm.E call true ops o a S with _ | ⟨a',S'⟩
  ·simp only[wr_none]
  ·exact wp_stepsL h.2 fun j hj=>hs j (by simp[hj])
theorem wp_pickL {b:Nat} {p:Plan} {l:List Nat} (h:l.all (fun i=>decide (i<ops.size) && (slotN L i).isNone)=true):WR (planD Dm.E call ops L b (steps l p) a S) Q=WR (runD Dm.E call true ops (opsOf ops l) a S) fun a S=>WR (planD Dm.E call ops L b p a S) Q:=by
 refine wp_stepsL ?_ fun i hi=>?_
 ·induction l with
  |nil=>rfl
  |cons i l ih=>
   simp only[List.all_cons,Bool.and_eq_true,decide_eq_true_eq]at h
   have hi:ops[i]? =some ops[i]:=by simp[h.1.1]
   simp only[opsOf,List.filterMap_cons,hi,List.map_cons,List.cons.injEq,true_and]
   exact ih h.2
 ·have:=List.all_eq_true.1 h i hi
  simp only[Bool.and_eq_true,Option.isNone_iff_eq_none]at this
  exact this.2
theorem wp_slot {b i s:Nat} {p:Plan} {t:TypeId} {z:D} {dst:Option Tmp} {ft:List Edge} {pos:String} {ty:TypeId} (ho:ops[i]? =some { op:=.alloc t,dst:=dst,guard:=none,after:=ft.toArray,pos:=pos,type:=ty }) (hs:slotN L i=some s) (hz:zeroT Tryz.prog t=some z) (h1:z.cells.all D.one=true) (hd:S[b+s]? =some .dead):
  WR (planD Dm.E call ops L b (.step i p) a S) Q=WR (planD Dm.E call ops L b p (putD a dst (.loc (b+s) 0 0)) (S.set (b+s) (.row z.cells.length [z.cells]))) Q:=by
 have:zeroT Dm.E.P t=some z:=hz
 simp only[planD,ho,stepW,hs,stepM,wantD,dMade,this,h1,if_true,hd]
theorem wp_bothL {b:Nat} {p q:Plan} (a1:List D) (S1:List Ob) (hp:WR (planD Dm.E call ops L b p a S) fun a' S'=>a'=a1∧S'=S1) (hq:WR (planD Dm.E call ops L b q a S) fun a' S'=>a'=a1∧S'=S1) (h:Q a1 S1):
  WR (planD Dm.E call ops L b (.both p q) a S) Q:=by
 obtain⟨_,_,h1,rfl,rfl⟩:=hp
 obtain⟨_,_,h2,rfl,rfl⟩:=hq
 refine⟨_,_,?_,h⟩
 simp only[planD,h1,h2,beqL_refl,beqS_refl,Bool.and_self,if_true]
end

end Go.Proofs.YtaklebjoenophaaGreat.Dm
namespace Go.Proofs.YtaklebjoenophaaGreat.Dm
open Go Gw
set_option linter.unusedSimpArgs false
set_option linter.unusedSimpArgs false
section
variable {n : Nat}
theorem tmod_pos {a b:Int} (hb:0<b): -b<a.tmod b∧a.tmod b<b:=by
 rcases Int.le_total 0 a with h |h
 ·exact⟨by have:=Int.tmod_nonneg b h;omega,Int.tmod_lt_of_pos a hb⟩
 ·have h1:0≤ -a:=by omega
  have h2:=Int.tmod_nonneg b h1
  have h3:=Int.tmod_lt_of_pos (-a) hb
  rw[Int.neg_tmod]at h2 h3
  omega
def P2 (i:Nat) (v:Int):Prop:=(i=0∧v=1)∨(i=1∧v=2)∨(i=2∧v=4)∨(i=3∧v=8)∨(i=4∧v=16)∨(i=5∧v=32)∨(i=6∧v=64)
end
end Go.Proofs.YtaklebjoenophaaGreat.Dm
