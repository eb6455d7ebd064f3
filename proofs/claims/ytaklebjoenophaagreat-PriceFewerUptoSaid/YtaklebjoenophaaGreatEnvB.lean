/-
  The machine at this seat's program is sound: with the functions that are known by laws of their own.
  Places as plain data.
  A plan, cut behind its branchings.
  The machine at configurations: Find, Place, the program's and the reference's.
  The inventory of seats in the store: what lies where, whose it is, and what a step keeps.
  The machine at the classes of a cabin: what is right, limits, what is left below them.
  The machine at connecting times: how exactly an element matches, and the minimum.
  The machine at minimum connecting times: both programs find the same.
  The machine at minimum connecting times: Check and Fits, the program's and the reference's.
-/
import Derived.Test.YtaklebjoenophaaGreatEnvH
import Derived.Test.YtaklebjoenophaaGreatGw
import Derived.Test.YtaklebjoenophaaGreatWq
set_option linter.unusedSimpArgs false
set_option linter.unusedVariables false
namespace Go.Proofs.YtaklebjoenophaaGreat.Dm
open Go
theorem prim1_ok {f:FuncId} {p:List D->List Ob->Option (D×List Ob)} (hp:prim1 f=some p) {args:List D} {S S':List Ob} {d:D} (hd:p args S=some (d,S')) {W:World} {C:Cx} {vargs:Array Value} (hs:SR W C S) (hP:C.P=E0.P) (hG:GR W C E0.G) (hv:VRs W C args vargs.toList):
  (∃fn,E0.P.funcs[f]?=some fn/\fn.body.isSome=true)/\
  Calls E0.P f vargs W λe W'=>∃v C',e=.returned v/\VR W' C' d v/\SR W' C' S'/\Fr W C S W' C' S':=by
 unfold prim1 at hp
 first
 | (cases hp;done)
 |skip
theorem envOk1:EnvOk E1 where
 mixed:=envOk0.mixed
 names:=envOk0.names
 keys:=envOk0.keys
 lin f fn c hf hb hm:=(linC_prim prim1 (λ_=>none) c).trans (envOk0.lin f fn c hf hb hm)
 globals:=envOk0.globals
 exts:=envOk0.exts
 prims f p hp args S d S' hd W C vargs hs hP hG hv:=prim1_ok hp hd hs hP hG hv
theorem prims_true:(primFs.all λf=>isT0 (dcallX E1 200 f [] []))=true:=by kernel_rfl
theorem envOk:EnvOk E where
 mixed:=envOk0.mixed
 names:=envOk0.names
 keys:=envOk0.keys
 lin f fn c hf hb hm:=(linC_prim primOf (λ_=>none) c).trans (envOk0.lin f fn c hf hb hm)
 globals:=envOk0.globals
 exts:=envOk0.exts
 prims f p hp args S d S' hd W C vargs hs hP hG hv:=by
  change primOf f=some p at hp
  unfold primOf at hp
  split at hp
  ·rename_i hm
   obtain⟨T,hT⟩:=isT0_spec (List.all_eq_true.1 prims_true f (List.contains_iff_mem.1 hm))
   have h':=(Yi hp).symm
   subst h'
   cases args with
   |nil=>
    cases hd
    exact prim_closed envOk1 hT hs hP hG hv
   |cons a l=>cases hd
  exact prim1_ok hp hd hs hP hG hv
open Gw
structure Shf where
 tm:Int
 off:Int
def Shf.enc (r:Shf):List D:=[.int .i64 r.tm,.int .i64 r.off]
structure Apt where
 code:ByteArray
 city:ByteArray
 ctry:ByteArray
 off:Int
 sh:List Shf
 shx:Bool
def Apt.enc (r:Apt):List D:=[.str r.code,.str r.city,.str r.ctry,.int .i64 r.off,.sl 2 (r.sh.map Shf.enc) r.shx]
structure Dst where
 fr:ByteArray
 to:ByteArray
 mi:Int
def Dst.enc (r:Dst):List D:=[.str r.fr,.str r.to,.int .i64 r.mi]
structure Plc where
 aps:List Apt
 apsx:Bool
 dts:List Dst
 dtsx:Bool
def Plc.enc (r:Plc):List D:=[.sl 5 (r.aps.map Apt.enc) r.apsx,.sl 3 (r.dts.map Dst.enc) r.dtsx]
theorem Shf_pure (r:Shf):pureL r.enc=true:=by
 simp only[D.pure,pureL_cons,pureL_nil,Yj,Bool.and_self,Shf.enc]
theorem Shfs_pure (l:List Shf):pureLL (l.map Shf.enc)=true:=by
 induction l with
 |nil=>rfl
 |cons f fs ih=>rw[Zh,pureLL_cons,ih,Shf_pure];rfl
theorem Apt_pure (r:Apt):pureL r.enc=true:=by
 simp only[D.pure,pureL_cons,pureL_nil,Yj,Bool.and_self,Apt.enc,Shfs_pure]
theorem Apts_pure (l:List Apt):pureLL (l.map Apt.enc)=true:=by
 induction l with
 |nil=>rfl
 |cons f fs ih=>rw[Zh,pureLL_cons,ih,Apt_pure];rfl
theorem Dst_pure (r:Dst):pureL r.enc=true:=by
 simp only[D.pure,pureL_cons,pureL_nil,Yj,Bool.and_self,Dst.enc]
theorem Dsts_pure (l:List Dst):pureLL (l.map Dst.enc)=true:=by
 induction l with
 |nil=>rfl
 |cons f fs ih=>rw[Zh,pureLL_cons,ih,Dst_pure];rfl
theorem Plc_pure (r:Plc):pureL r.enc=true:=by
 simp only[D.pure,pureL_cons,pureL_nil,Yj,Bool.and_self,Plc.enc,Apts_pure,Dsts_pure]
def Shf.Ok (r:Shf):Prop:=(-9223372036854775808<=r.tm/\r.tm<=9223372036854775807)/\(-9223372036854775808<=r.off/\r.off<=9223372036854775807)/\True
def Apt.Ok (r:Apt):Prop:=r.code.size<=9223372036854775807/\r.city.size<=9223372036854775807/\r.ctry.size<=9223372036854775807/\(-9223372036854775808<=r.off/\r.off<=9223372036854775807)/\((∀e∈r.sh,e.Ok)/\r.sh.length<=9223372036854775807)/\True
def Dst.Ok (r:Dst):Prop:=r.fr.size<=9223372036854775807/\r.to.size<=9223372036854775807/\(-9223372036854775808<=r.mi/\r.mi<=9223372036854775807)/\True
def Plc.Ok (r:Plc):Prop:=((∀e∈r.aps,e.Ok)/\r.aps.length<=9223372036854775807)/\((∀e∈r.dts,e.Ok)/\r.dts.length<=9223372036854775807)/\True
theorem set_sorti {α:Type} {l:List α} {i j:Nat} {x y:α} (h:j<i):(l.set i x).set j y=(l.set j (id y)).set i x:=List.set_comm _ _ (Nat.ne_of_gt h)
def Plan.andThen:Plan->Plan->Plan
 | .done,r=>r
 | .step i p,r=>.step i (p.andThen r)
 | .both p q,r=>.both (p.andThen r) (q.andThen r)
section
variable {call : Call} {ops : Array Oper} {a : List D} {S : List Ob} {Q : Post} {L : List Nat}
theorem wc_planL {n i:Nat} {l:List Oper} {p:Plan} {Q:PostX} (hp:planOf i l.toArray=some (L,p)):WC (codeD Dm.E call n (.region i l.toArray true) a S) Q=WR (planD Dm.E call l.toArray L S.length p a (S++List.replicate L.length .dead)) (Q .normal):=by
 have hc:codeD Dm.E call n (.region i l.toArray true) a S=match planD Dm.E call l.toArray L S.length p a (S++List.replicate L.length .dead) with
  |some (a',S')=>some (DX.normal,a',S')
  |none=>none:=by
  have hp':Dm.E.plan i l.toArray=some (L,p):=hp
  simp only[codeD,hp',if_true]
  rfl
 rw[hc]
 generalize planD Dm.E call l.toArray L S.length p a (S++List.replicate L.length .dead)=r
 rcases r with _ | ⟨a',S'⟩
 ·simp only[wc_none,wr_none]
 ·simp only[wc_some,wr_some]
theorem wp_doneL {b:Nat}:WR (planD Dm.E call ops L b .done a S) Q=Q a S:=wr_some
theorem wp_stepsL {b:Nat} {p:Plan}:∀ {l:List Nat} {ol:List Oper} {a:List D} {S:List Ob},l.map (λi=>ops[i]?)=ol.map some->(∀i∈l,slotN L i=none)->WR (planD Dm.E call ops L b (steps l p) a S) Q=WR (runD Dm.E call true ops ol a S) λa S=>WR (planD Dm.E call ops L b p a S) Q
 | [],[],a,S,_,_=>by simp only[steps,runD,wr_some]
 | [],o::ol,a,S,h,_=>by simp at h
 |i::l,[],a,S,h,_=>by simp at h
 |i::l,o::ol,a,S,h,hs=>by
  simp only[Zh,List.cons.injEq]at h
  simp only[steps,planD,h.1,stepW,hs i (by simp),runD]
  rcases stepD Dm.E call true ops o a S with _ | ⟨a',S'⟩
  ·simp only[wr_none]
  ·exact wp_stepsL h.2 λj hj=>hs j (by simp[hj])
theorem wp_pickL {b:Nat} {p:Plan} {l:List Nat} (h:l.all (λi=>decide (i<ops.size) && (slotN L i).isNone)=true):WR (planD Dm.E call ops L b (steps l p) a S) Q=WR (runD Dm.E call true ops (opsOf ops l) a S) λa S=>WR (planD Dm.E call ops L b p a S) Q:=by
 refine wp_stepsL ?_ λi hi=>?_
 ·induction l with
  |nil=>rfl
  |cons i l ih=>
   simp only[List.all_cons,Ye,Yy]at h
   have hi:ops[i]?=some ops[i]:=by simp[h.1.1]
   simp only[opsOf,Yw,hi,Zh,List.cons.injEq,WY]
   exact ih h.2
 ·have:=List.all_eq_true.1 h i hi
  simp only[Ye,Option.isNone_iff_eq_none]at this
  exact this.2
theorem wp_slot {b i s:Nat} {p:Plan} {t:TypeId} {z:D} {dst:Option Tmp} {ft:List Edge} {pos:String} {ty:TypeId} (ho:ops[i]?=some { op:=.alloc t,dst:=dst,guard:=none,after:=ft.toArray,pos:=pos,type:=ty }) (hs:slotN L i=some s) (hz:zeroT Tryz.prog t=some z) (h1:z.cells.all D.one=true) (hd:S[b+s]?=some .dead):
  WR (planD Dm.E call ops L b (.step i p) a S) Q=WR (planD Dm.E call ops L b p (putD a dst (.loc (b+s) 0 0)) (S.set (b+s) (.row z.cells.length [z.cells]))) Q:=by
 have:zeroT Dm.E.P t=some z:=hz
 simp only[planD,ho,stepW,hs,stepM,wantD,dMade,this,h1,if_true,hd]
theorem wp_bothL {b:Nat} {p q:Plan} (a1:List D) (S1:List Ob) (hp:WR (planD Dm.E call ops L b p a S) λa' S'=>a'=a1/\S'=S1) (hq:WR (planD Dm.E call ops L b q a S) λa' S'=>a'=a1/\S'=S1) (h:Q a1 S1):
  WR (planD Dm.E call ops L b (.both p q) a S) Q:=by
 obtain⟨_,_,h1,rfl,rfl⟩:=hp
 obtain⟨_,_,h2,rfl,rfl⟩:=hq
 refine⟨_,_,?_,h⟩
 simp only[planD,h1,h2,beqL_refl,beqS_refl,Bool.and_self,if_true]
end
structure Sm (c:Cfg):Prop where
 cabs:c.cabs.length<=30
 cls:∀y∈c.cabs,y.cls.length<=30
theorem CfgOk.sm {c:Cfg} (h:CfgOk c):Sm c:=⟨by have:=h.l2;omega,λy hy=>by have:=(h.cab y hy).l2;omega⟩
/-! ### What may be sold in a cabin, and which class takes the place of a class -/
abbrev Lab:=Nat->List Nat
def FreshL (S:List Ob) (lab:Lab):Prop:=∀x,S.length<=x->lab x=[]
structure Step (o:Nat) (S:List Ob) (lab:Lab) (T:List Ob) (lab':Lab):Prop where
 len:S.length<=T.length
 fresh:FreshL T lab'
 labs:∀x,x<S.length->lab' x=lab x
 keep:∀x,x<S.length->(lab x).head? ≠some o->T[x]?=S[x]?
theorem Step.refl {o:Nat} {S:List Ob} {lab:Lab} (h:FreshL S lab):Step o S lab S lab:=⟨Yt _,h,λ_ _=>rfl,λ_ _ _=>rfl⟩
theorem Step.trans {o:Nat} {S T U:List Ob} {l m n:Lab} (h:Step o S l T m) (g:Step o T m U n):Step o S l U n where
 len:=Zu h.len g.len
 fresh:=g.fresh
 labs x hx:=(g.labs x (Nat.lt_of_lt_of_le hx h.len)).trans (h.labs x hx)
 keep x hx hl:=(g.keep x (Nat.lt_of_lt_of_le hx h.len) (by rw[h.labs x hx];exact hl)).trans (h.keep x hx hl)
theorem lt_of_get {α:Type} {l:List α} {i:Nat} {x:α} (h:l[i]?=some x):i<l.length:=(Ya.1 h).1
theorem FreshL.push {S:List Ob} {lab:Lab} (h:FreshL S lab) (J:List Ob):FreshL (S++J) lab:=λx hx=>h x (by rw[Yd]at hx;omega)
theorem Step.push {o:Nat} {S:List Ob} {lab:Lab} (h:FreshL S lab) (J:List Ob):Step o S lab (S++J) lab where
 len:=by rw[Yd];omega
 fresh:=h.push J
 labs _ _:=rfl
 keep x hx _:=Zc hx
def setL (lab:Lab) (x:Nat) (t:List Nat):Lab:=λy=>if y=x then t else lab y
theorem setL_ne {lab:Lab} {x y:Nat} {t:List Nat} (h:y≠x):setL lab x t y=lab y:=by simp[setL,h]
theorem Step.add {o:Nat} {S:List Ob} {lab:Lab} (h:FreshL S lab) (ob:Ob) (t:List Nat):Step o S lab (S++[ob]) (setL lab S.length t) where
 len:=by rw[Yd];omega
 fresh x hx:=by
  rw[Yd,List.length_singleton]at hx
  rw[setL_ne (by omega)]
  exact h x (by omega)
 labs x hx:=setL_ne (by omega)
 keep x hx _:=Zc hx
theorem Step.set {o:Nat} {S:List Ob} {lab:Lab} (h:FreshL S lab) {k:Nat} (ob:Ob) (hk:(lab k).head? =some o):Step o S lab (S.set k ob) lab where
 len:=by simp
 fresh x hx:=h x (by simpa using hx)
 labs _ _:=rfl
 keep x hx hl:=by
  rw[Yc]
  rintro rfl
  exact hl hk
theorem Step.other {o o':Nat} {S T:List Ob} {l m:Lab} (h:Step o S l T m) (ho:o'≠o) {x:Nat} {ob:Ob} {t:List Nat} (hx:S[x]?=some ob) (hl:l x=o'::t):T[x]?=some ob/\m x=o'::t:=by
 have hlt:=lt_of_get hx
 refine⟨by rw[h.keep x hlt (by rw[hl];simpa using ho)];exact hx,by rw[h.labs x hlt];exact hl⟩
theorem Step.free {o:Nat} {S T:List Ob} {l m:Lab} (h:Step o S l T m) {x:Nat} {ob:Ob} (hx:S[x]?=some ob) (hl:l x=[]):T[x]?=some ob/\m x=[]:=by
 have hlt:=lt_of_get hx
 refine⟨by rw[h.keep x hlt (by rw[hl];simp)];exact hx,by rw[h.labs x hlt];exact hl⟩
abbrev encZ (n:Int):List D:=[.int .i64 n]
def TabAt (S:List Ob) (lab:Lab) (o i:Nat) (d:D) (t:List (List Int)):Prop:=
 ∃(q:Nat) (r:Nat->Nat) (es:List (List D)),d=.os q 0 t.length false/\lab q=[o,2,i]/\S[q]?=some (.row 1 es)/\es.length=t.length/\
  ∀(j:Nat) (row:List Int),t[j]?=some row->es[j]?=some [.os (r j) 0 row.length false]/\lab (r j)=[o,3,i,j]/\S[r j]?=some (.row 1 (row.map encZ))
def KeepO (o:Nat) (S:List Ob) (lab:Lab) (T:List Ob) (lab':Lab):Prop:=∀(x:Nat) (ob:Ob) (t:List Nat),S[x]?=some ob->lab x=o::t->T[x]?=some ob/\lab' x=o::t
theorem KeepO.push {o:Nat} {S J:List Ob} {lab:Lab}:KeepO o S lab (S++J) lab:=λ_ _ _ hx hl=>⟨get_old hx,hl⟩
theorem TabAt.keep {S T:List Ob} {lab lab':Lab} {o i:Nat} {d:D} {t:List (List Int)} (h:TabAt S lab o i d t)
  (g:∀(x:Nat) (ob:Ob) (tl:List Nat),S[x]?=some ob->(lab x=[o,2,i]∨∃j,lab x=[o,3,i,j])->T[x]?=some ob/\lab' x=lab x):TabAt T lab' o i d t:=by
 obtain⟨q,r,es,rfl,hq,hs,hl,hr⟩:=h
 obtain⟨g1,g2⟩:=g q _ [] hs (.inl hq)
 refine⟨q,r,es,rfl,by rw[g2,hq],g1,hl,λj row hj=>?_⟩
 obtain⟨h1,h2,h3⟩:=hr j row hj
 obtain⟨g1,g2⟩:=g (r j) _ [] h3 (.inr ⟨j,h2⟩)
 exact⟨h1,by rw[g2,h2],g1⟩
theorem modify_get {α:Type} {l:List α} {i j:Nat} {f:α->α} {y:α} (h:(l.modify i f)[j]?=some y):∃x,l[j]?=some x/\y=if i=j then f x else x:=by
 rw[List.getElem?_modify]at h
 cases hx:l[j]? with
 |none=>rw[hx]at h;cases h
 |some x=>
  rw[hx]at h
  refine⟨x,rfl,?_⟩
  have:=Yi h
  rw[<-this]
theorem TabAt.add {S:List Ob} {lab:Lab} {o i a b:Nat} {d:D} {t:List (List Int)} {row:List Int} {r:Nat} {n:Int} (h:TabAt S lab o i d t) (ha:t[a]?=some row) (hl:lab r=[o,3,i,a]) (hr:∃(q:Nat) (es:List (List D)),d=.os q 0 t.length false/\S[q]?=some (.row 1 es)/\es[a]?=some [.os r 0 row.length false]):
  TabAt (S.set r (.row 1 ((row.modify b (· +n)).map encZ))) lab o i d (addAt t a b n):=by
 obtain⟨q,f,es,rfl,hq,hs,hel,hf⟩:=h
 obtain⟨q',es',e1,hs',hes'⟩:=hr
 cases e1
 rw[hs]at hs'
 injection hs' with hs'
 injection hs' with _ hs'
 subst hs'
 obtain⟨f1,f2,f3⟩:=hf a row ha
 have hfr:f a=r:=by
  rw[f1]at hes'
  simpa using hes'
 have hne:r≠q:=by rintro rfl;rw[hl]at hq;simp at hq
 refine⟨q,f,es,by rw[addAt,List.length_modify],hq,by rw[Yc hne];exact hs,by rw[addAt,List.length_modify];exact hel,λj y hj=>?_⟩
 obtain⟨x,hx,rfl⟩:=modify_get hj
 obtain⟨g1,g2,g3⟩:=hf j x hx
 by_cases haj:a=j
 ·subst haj
  rw[ha]at hx
  cases hx
  rw[if_pos rfl,hfr,List.length_modify]
  rw[hfr]at g1 g2 g3
  exact⟨g1,g2,Yo (lt_of_get g3)⟩
 ·rw[if_neg haj]
  refine⟨g1,g2,?_⟩
  rw[Yc]
  ·exact g3
  ·intro e
   rw[e,g2]at hl
   simp at hl
   omega
/-! ### The program's inventory -/
abbrev legCells (x:Leg) (d:D):List D:=[.str x.cfg.equip,.sl 4 (x.cfg.cabs.map Cab.enc) x.cfg.cabsx,d,.bool x.closed]
def LegAt (S:List Ob) (lab:Lab) (o i p:Nat) (x:Leg):Prop:=
 lab p=[o,1,i]/\∃d,S[p]?=some (.row 4 [legCells x d])/\TabAt S lab o i d x.sold
structure StkAt (S:List Ob) (lab:Lab) (o:Nat) (kt:TypeId) (d:D) (s:Stk) (k m:Nat) (ps:List (D×D)):Prop where
 dat:d=.loc k 0 0
 labk:lab k=[o,0]
 labm:lab m=[o,4]
 row:S[k]?=some (.row 2 [[.sl 2 (s.l.map Cfg.enc) s.x,.map m]])
 map:S[m]?=some (.map kt ps)
 len:ps.length=s.legs.length
 leg:∀(i:Nat) (id:Lid) (x:Leg),s.legs[i]?=some (id,x)->∃p,ps[i]?=some (.agg id.enc,.loc p 0 0)/\LegAt S lab o i p x
theorem LegAt.keep {S T:List Ob} {lab lab':Lab} {o i p:Nat} {x:Leg} (h:LegAt S lab o i p x) (g:KeepO o S lab T lab'):LegAt T lab' o i p x:=by
 obtain⟨h1,d,h2,h3⟩:=h
 obtain⟨g1,g2⟩:=g p _ _ h2 h1
 refine⟨g2,d,g1,h3.keep λy ob tl hy hl=>?_⟩
 rcases hl with hl | ⟨j,hl⟩
 ·obtain⟨g1,g2⟩:=g y _ _ hy hl
  exact⟨g1,by rw[g2,hl]⟩
 ·obtain⟨g1,g2⟩:=g y _ _ hy hl
  exact⟨g1,by rw[g2,hl]⟩
theorem StkAt.keep {S T:List Ob} {lab lab':Lab} {o:Nat} {kt:TypeId} {d:D} {s:Stk} {k m:Nat} {ps:List (D×D)} (h:StkAt S lab o kt d s k m ps) (g:KeepO o S lab T lab'):StkAt T lab' o kt d s k m ps where
 dat:=h.dat
 labk:=(g k _ _ h.row h.labk).2
 labm:=(g m _ _ h.map h.labm).2
 row:=(g k _ _ h.row h.labk).1
 map:=(g m _ _ h.map h.labm).1
 len:=h.len
 leg i id x hx:=by
  obtain⟨p,h1,h2⟩:=h.leg i id x hx
  exact⟨p,h1,h2.keep g⟩
/-! ### Keys -/
theorem key_eq (a b:Lid):keyBeq (.agg a.enc) (.agg b.enc)=decide (a=b):=by
 cases a;cases b
 simp only[keyBeq,Lid.enc,kBeqs,kBeq,Yj,Lid.mk.injEq,WY]
 rw[Bool.eq_iff_iff]
 simp
theorem look_go {S:List Ob} {lab:Lab} {o:Nat} {id:Lid}:∀(ps:List (D×D)) (legs:List (Lid×Leg)) (n:Nat),ps.length=legs.length->(∀(i:Nat) (id:Lid) (x:Leg),legs[i]?=some (id,x)->∃p,ps[i]?=some (.agg id.enc,.loc p 0 0)/\LegAt S lab o (i+n) p x)->
  (getL legs id=none/\lookM ps (.agg id.enc)=none)∨∃i x p,legs[i]?=some (id,x)/\(∀j y,j<i->legs[j]?=some y->y.1≠id)/\getL legs id=some x/\lookM ps (.agg id.enc)=some (.loc p 0 0)/\ps[i]?=some (.agg id.enc,.loc p 0 0)/\LegAt S lab o (i+n) p x
 | [],[],_,_,_=>.inl ⟨rfl,rfl⟩
 |q::ps,(id',x)::legs,n,hl,h=>by
  obtain⟨p,h1,h2⟩:=h 0 id' x rfl
  have hq:q=(.agg id'.enc,.loc p 0 0):=by simpa using h1
  subst hq
  by_cases e:id'=id
  ·subst e
   refine .inr ⟨0,x,p,rfl,λj y hj=>by omega,?_,?_,rfl,h2⟩
   ·simp[getL]
   ·simp[lookM,key_eq]
  ·have hk:keyBeq (.agg id'.enc) (.agg id.enc)=false:=by rw[key_eq];exact Ym e
   rcases look_go ps legs (n+1) (by simpa using hl) (λi id x hx=>by
    obtain⟨p,h1,h2⟩:=h (i+1) id x (by simpa using hx)
    exact⟨p,by simpa using h1,by rw[show i+(n+1)=i+1+n by omega];exact h2⟩) with ⟨g1,g2⟩ | ⟨i,y,p',g1,g0,g2,g3,g4,g5⟩
   ·refine .inl ⟨?_,?_⟩
    ·simpa [getL,e] using g1
    ·simpa [lookM,hk] using g2
   ·refine .inr ⟨i+1,y,p',by simpa using g1,λj y hj hy=>?_,?_,?_,by simpa using g4,by rw[show i+1+n=i+(n+1) by omega];exact g5⟩
    ·cases j with
     |zero=>have:(id',x)=y:=by simpa using hy
            rw[<-this];exact e
     |succ j=>exact g0 j y (by omega) (by simpa using hy)
    ·simpa [getL,e] using g2
    ·simpa [lookM,hk] using g3
theorem StkAt.look {S:List Ob} {lab:Lab} {o:Nat} {kt:TypeId} {d:D} {s:Stk} {k m:Nat} {ps:List (D×D)} (h:StkAt S lab o kt d s k m ps) (id:Lid):
  (s.get id=none/\lookM ps (.agg id.enc)=none)∨∃i x p,s.legs[i]?=some (id,x)/\(∀j y,j<i->s.legs[j]?=some y->y.1≠id)/\s.get id=some x/\lookM ps (.agg id.enc)=some (.loc p 0 0)/\ps[i]?=some (.agg id.enc,.loc p 0 0)/\LegAt S lab o i p x:=by
 have:=look_go (id:=id) ps s.legs 0 h.len (λi id x hx=>h.leg i id x hx)
 exact this
/-! ### Words -/
theorem exts_split {S T:List Ob} (h:ExtS S T):∃J,T=S++J:=by
 refine⟨T.drop S.length,List.ext_getElem? λk=>?_⟩
 by_cases hk:k<S.length
 ·rw[Zc hk,Yq hk]
  exact h k _ (Yq hk)
 ·rw[Zq (by omega),List.getElem?_drop]
  congr 1
  omega
theorem Gw.ExtS.set {S T:List Ob} (h:ExtS S T) {k:Nat} (hk:S.length<=k) (o:Ob):ExtS S (T.set k o):=λj x hj=>by
 have:=lt_of_get hj
 rw[Yc (by omega)]
 exact h j x hj
theorem Gw.ExtS.len {S T:List Ob} (h:ExtS S T):S.length<=T.length:=by
 obtain⟨J,rfl⟩:=exts_split h
 rw[Yd];omega
section
variable {call : Call} {st : Bool} {S : List Ob} {f : FuncId} {args : List D} {d d' : D} {T : List Ob}
end
/-! ### Numbers that are right -/
/-! ### Limits -/
/-! ### What is left below the limits -/
structure Cnn where
 a:ByteArray
 i:ByteArray
 o:ByteArray
 m:Int
def Cnn.enc (c:Cnn):List D:=[.str c.a,.str c.i,.str c.o,.int .i64 c.m]
def emp:ByteArray:=ByteArray.mk #[]
def eqS (x y:ByteArray):Bool:=x.toList == y.toList
def obs:List (Option Bool):=[none,some true,some false]
structure Sgm where
 c:ByteArray
 n:Int
 d:Int
 f:ByteArray
 t:ByteArray
 dep:Int
 arr:Int
def Sgm.enc (s:Sgm):List D:=[.str s.c,.int .i64 s.n,.int .i64 s.d,.str s.f,.str s.t,.int .i64 s.dep,.int .i64 s.arr]
def minCF (w:Cnn->Int) (m b:Int):List Cnn->Int
 | []=>m
 |c::l=>if b<w c then minCF w c.m (w c) l else minCF w m b l
def sameC (c q:Cnn):Bool:=(q.a.toList == c.a.toList) && (q.i.toList == c.i.toList) && (q.o.toList == c.o.toList)
def badC (c:Cnn):Bool:= !(eqS c.a emp || lettS c.a 3) || !(eqS c.i emp || carS c.i) || !(eqS c.o emp || carS c.o)
def outC (c:Cnn):Bool:=decide (c.m<0) || decide (1440<c.m)
def conS (i:Nat):ByteArray:=ByteArray.mk #[99,111,110,110,101,99,116,32]++dec2 i
def conF (i:Nat) (pre:List Cnn) (c:Cnn):List (Int×ByteArray):=ifF (badC c) 5 (conS i)++ifF (outC c) 2 (conS i)++ifF (pre.any (sameC c)) 6 (conS i)
def conL (l:List Cnn):Nat->List (Int×ByteArray)
 |0=>[]
 |i+1=>conL l i++match l[i]? with
  |some c=>conF i (l.take i) c
  |none=>[]
end Go.Proofs.YtaklebjoenophaaGreat.Dm
