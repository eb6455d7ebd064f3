/-
  What plain data of a type are: words for structs, and for slices of them.
  The violations of configurations as plain data, and what configurations without any are.
  The machine at configurations: Find, Place, the program's and the reference's.
  The inventory of seats in the store: what lies where, whose it is, and what a step keeps.
  The machine at the classes of a cabin: what is right, limits, what is left below them.
  The machine at the reference's classes of a cabin.
  The machine at the program's inventory: what does not change it.
  The machine at the reference's violations of configurations.
  The machine at the reference's violations of configurations: cabins, and all.
  The machine at minimum connecting times: Check and Fits, the program's and the reference's.
  The example of the prices holds: a closed run.
-/
import Derived.Test.YtaklebjoenophaaGreatEval
import Derived.Test.YtaklebjoenophaaGreatTod
import Derived.Test.YtaklebjoenophaaGreatSkT
import Derived.Test.YtaklebjoenophaaGreatPlT
import Derived.Test.YtaklebjoenophaaGreatWq
set_option linter.unusedSimpArgs false
set_option linter.unusedVariables false
namespace Go.Proofs.YtaklebjoenophaaGreat
open Go Dm Go.RowKit

theorem int_bd {n:Int} (h:(Lit.int .i64 n).wf=true): -9223372036854775808≤n∧n≤9223372036854775807:=by
 unfold Lit.wf at h
 rw[Bool.and_eq_true,decide_eq_true_eq,decide_eq_true_eq]at h
 exact h
def CellR (e e':List D):Prop:=e'.length=e.length∧∀(j:Nat) (c c':D),e[j]? =some c→e'[j]? =some c'→c'.one=true∧∀W C u,VR W C c u→VR W C c' u
theorem nils_sl {W:World} {C:Cx} {v:Value} {sz:Nat} (h:VR W C .nils v):VR W C (.sl sz [] true) v:=by
 cases h
 exact .sl0 (fun _=>rfl)
theorem VR.sl_rel {W:World} {C:Cx} {sz:Nat} {es es':List (List D)} {x:Bool} {v:Value} (h:VR W C (.sl sz es x) v) (hl:es'.length=es.length) (hr:∀(j:Nat) (e e':List D),es[j]? =some e→es'[j]? =some e'→CellR e e'):VR W C (.sl sz es' x) v:=by
 have at':∀ {j:Nat} {e':List D},es'[j]? =some e'→∃e,es[j]? =some e:=fun {j e'} h=>by
  have hj:=(List.getElem?_eq_some_iff.1 h).1
  exact⟨es[j]'(by omega),List.getElem?_eq_getElem (by omega)⟩
 have cell:∀ {e e':List D} {j:Nat} {c':D},CellR e e'→e'[j]? =some c'→∃c,e[j]? =some c:=fun {e e' j c'} h k=>by
  have hj:=(List.getElem?_eq_some_iff.1 k).1
  exact⟨e[j]'(by rw[←h.1];exact hj),List.getElem?_eq_getElem (by rw[←h.1];exact hj)⟩
 cases h with
 |sl vs hp hg hcap hx hs hc ho hv=>
  rw[←hl]at hp hcap hx hc ⊢
  refine .sl vs hp hg hcap hx (fun i e' he'=>?_) hc (fun i j e' c' he' hc'=>?_) (fun i j e' c' he' hc'=>?_)
  ·obtain⟨e,he⟩:=at' he'
   rw[(hr i e e' he he').1];exact hs i e he
  ·obtain⟨e,he⟩:=at' he'
   obtain⟨c,hc⟩:=cell (hr i e e' he he') hc'
   exact ((hr i e e' he he').2 j c c' hc hc').1
  ·obtain⟨e,he⟩:=at' he'
   obtain⟨c,hc⟩:=cell (hr i e e' he he') hc'
   exact ((hr i e e' he he').2 j c c' hc hc').2 _ _ _ (hv i j e c he hc)
 |sl0 hx=>
  have:es'=[]:=List.eq_nil_of_length_eq_zero (by simpa using hl)
  subst this
  exact .sl0 hx
theorem CellR.refl {c:List D} (h:∀d∈c,d.one=true):CellR c c:=⟨rfl,fun j x y hx hy=>by
 rw[hx]at hy
 cases hy
 exact⟨h _ (List.mem_of_getElem? hx),fun _ _ _ h=>h⟩⟩
theorem agg_rel {W:World} {C:Cx} {c c':List D} {v:Value} (hr:CellR c c') (h:VR W C (.agg c) v):VR W C (.agg c') v:=by
 obtain⟨vs,rfl,hv⟩:=h.of_agg
 have:VRs W C c' vs.toList:=⟨hr.1.trans hv.1,fun j d u hd hu=>by
  have hj:=(List.getElem?_eq_some_iff.1 hd).1
  obtain⟨c0,hc0⟩:∃c0,c[j]? =some c0:=⟨c[j]'(by rw[←hr.1];exact hj),List.getElem?_eq_getElem (by rw[←hr.1];exact hj)⟩
  exact (hr.2 j c0 d hc0 hd).2 _ _ _ (hv.2 j c0 u hc0 hu)⟩
 have:=VR.agg_of this
 simpa using this
end Go.Proofs.YtaklebjoenophaaGreat
namespace Go.Proofs.YtaklebjoenophaaGreat.Dm
open Go Gw

/-! ### Sets of texts as maps -/
def inB (t:ByteArray) (l:List ByteArray):Bool:=l.any fun u=>decide (u=t)
theorem inB_app (t:ByteArray) (a b:List ByteArray):inB t (a++b)=(inB t a || inB t b):=by unfold inB;rw[List.any_append]
theorem inB_one (t u:ByteArray):inB t [u]=decide (u=t):=by simp[inB]
def SetIs (ps:List (D×D)) (l:List ByteArray):Prop:=(∀p∈ps,∃s,p.1=.str s)∧∀t:ByteArray,lookM ps (.str t)=if inB t l=true then some (.bool true) else none
theorem SetIs.nil:SetIs [] []:=⟨fun p h=>(by cases h),fun t=>by simp[lookM,inB]⟩
theorem look_put:∀(ps:List (D×D)) (s t:ByteArray) (v:D),(∀p∈ps,∃s,p.1=.str s)→lookM (putM ps (.str s) v) (.str t)=if s=t then some v else lookM ps (.str t)
 | [],s,t,v,_=>by
  by_cases e:s=t
  ·simp[putM,lookM,keyBeq,kBeq,e]
  ·simp[putM,lookM,keyBeq,kBeq,e]
 | (a,b)::ps,s,t,v,h=>by
  obtain⟨u,hu⟩:=h (a,b) (by simp)
  have hu:a=.str u:=hu
  subst hu
  have ih:=look_put ps s t v (fun p hp=>h p (by simp[hp]))
  have hk:∀x y:ByteArray,keyBeq (.str x) (.str y)=decide (x=y):=fun x y=>rfl
  by_cases e:u=s
  ·subst e
   rw[putM,hk,if_pos (by simp)]
   by_cases e2:u=t
   ·simp[lookM,hk,e2]
   ·simp[lookM,hk,e2]
  ·rw[putM,hk,if_neg (by simpa using e)]
   by_cases e2:u=t
   ·subst e2
    rw[if_neg (fun x=>e x.symm)]
    simp[lookM,hk]
   ·have l1:lookM ((.str u,b)::putM ps (.str s) v) (.str t)=lookM (putM ps (.str s) v) (.str t):=by simp[lookM,hk,e2]
    have l2:lookM ((.str u,b)::ps) (.str t)=lookM ps (.str t):=by simp[lookM,hk,e2]
    rw[l1,l2,ih]
theorem put_keys:∀(ps:List (D×D)) (s:ByteArray) (v:D),(∀p∈ps,∃s,p.1=.str s)→∀p∈putM ps (.str s) v,∃s,p.1=.str s
 | [],s,v,_,p,hp=>by
  simp only[putM,List.mem_singleton]at hp
  subst hp
  exact⟨s,rfl⟩
 | (a,b)::ps,s,v,h,p,hp=>by
  rw[putM]at hp
  split at hp
  ·rcases List.mem_cons.1 hp with rfl |hp
   ·exact h (a,b) (by simp)
   ·exact h p (by simp[hp])
  ·rcases List.mem_cons.1 hp with rfl |hp
   ·exact h (a,b) (by simp)
   ·exact put_keys ps s v (fun q hq=>h q (by simp[hq])) p hp
theorem SetIs.put {ps:List (D×D)} {l:List ByteArray} (h:SetIs ps l) (s:ByteArray):SetIs (putM ps (.str s) (.bool true)) (l++[s]):=by
 refine⟨put_keys ps s _ h.1,fun t=>?_⟩
 rw[look_put ps s t _ h.1,h.2,inB_app,inB_one]
 by_cases e:s=t
 ·simp[e]
 ·simp[e]

/-! ### The violations -/
def rngB (y:Cab):Bool:=decide (1≤y.seats) && decide (y.seats≤999) && decide (0≤y.over) && decide (y.over≤999)
def cnfS (i:Nat):ByteArray:=ByteArray.mk #[99,111,110,102,105,103,32]++dec2 i
def cbnS (at':ByteArray) (k:Nat):ByteArray:=at'++ByteArray.mk #[32,99,97,98,105,110,32]++dec2 k
def clsS (at':ByteArray) (k:Nat):ByteArray:=at'++ByteArray.mk #[32,99,108,97,115,115,32]++dec2 k
def clsB (s:ByteArray):Bool:=decide (s.size=1) && capB ((s[0]?).getD 0)
def protB (y:Cab) (j:Nat) (z:Cls):Bool:=decide (z.prot<0) || (decide (0<j) && decide (z.prot<((y.cls[j-1]?).map (·.prot)).getD 0)) || (rngB y && decide (autF y<z.prot))
def clsF (at':ByteArray) (seen:List ByteArray) (y:Cab) (j:Nat) (z:Cls):List (Int×ByteArray):=
 ifF (!clsB z.code) 16 (clsS at' j)++ifF (inB z.code seen) 6 (clsS at' j)++ifF (protB y j z) 2 (clsS at' j)
def clsL (at':ByteArray) (seen:List ByteArray) (y:Cab):Nat→List (Int×ByteArray)
 |0=>[]
 |j+1=>clsL at' seen y j++match y.cls[j]? with
  |some z=>clsF at' (seen++(y.cls.take j).map (·.code)) y j z
  |none=>[]
def cabF (at':ByteArray) (pre:List Cab) (k:Nat) (y:Cab):List (Int×ByteArray):=
 ifF (!codeS y.name 1 8) 5 (cbnS at' k)++ifF (inB y.name (pre.map (·.name))) 6 (cbnS at' k)++ifF (!rngB y) 2 (cbnS at' k)++ifF (decide (y.cls.length<1) || decide (26<y.cls.length)) 4 (cbnS at' k)++clsL (cbnS at' k) (codes pre) y y.cls.length
def cabL (at':ByteArray) (l:List Cab):Nat→List (Int×ByteArray)
 |0=>[]
 |k+1=>cabL at' l k++match l[k]? with
  |some y=>cabF at' (l.take k) k y
  |none=>[]
def cfgF (pre:List Cfg) (i:Nat) (x:Cfg):List (Int×ByteArray):=
 ifF (!codeS x.equip 3 3) 5 (cnfS i)++ifF (inB x.equip (pre.map (·.equip))) 6 (cnfS i)++ifF (decide (x.cabs.length<1) || decide (4<x.cabs.length)) 4 (cnfS i)++cabL (cnfS i) x.cabs x.cabs.length
def cfgL (l:List Cfg):Nat→List (Int×ByteArray)
 |0=>[]
 |i+1=>cfgL l i++match l[i]? with
  |some x=>cfgF (l.take i) i x
  |none=>[]
/-! ### No violations -/
end Go.Proofs.YtaklebjoenophaaGreat.Dm
namespace Go.Proofs.YtaklebjoenophaaGreat.Dm
open Go Gw
set_option linter.unusedSimpArgs false
set_option linter.unusedSimpArgs false

structure Sm (c:Cfg):Prop where
 cabs:c.cabs.length≤30
 cls:∀y∈c.cabs,y.cls.length≤30
def zCfg:Cfg:=⟨ByteArray.mk #[],[],true⟩
def foundC:Option Cfg→D
 |some c=>.tup [.agg c.enc,.bool true]
 |none=>.tup [.agg [.str (ByteArray.mk #[]),.nils],.bool false]
def placeD:Option (Nat×Nat)→D
 |some (i,k)=>.tup [.int .i64 i,.int .i64 k,.bool true]
 |none=>.tup [.int .i64 0,.int .i64 0,.bool false]
/-! ### What may be sold in a cabin, and which class takes the place of a class -/
def likeD:Option ByteArray→D
 |some s=>.tup [.str s,.bool true]
 |none=>.tup [.str (ByteArray.mk #[]),.bool false]
end Go.Proofs.YtaklebjoenophaaGreat.Dm
namespace Go.Proofs.YtaklebjoenophaaGreat.Dm
open Go Gw

abbrev Lab:=Nat→List Nat
def FreshL (S:List Ob) (lab:Lab):Prop:=∀x,S.length≤x→lab x=[]
structure Step (o:Nat) (S:List Ob) (lab:Lab) (T:List Ob) (lab':Lab):Prop where
 len:S.length≤T.length
 fresh:FreshL T lab'
 labs:∀x,x<S.length→lab' x=lab x
 keep:∀x,x<S.length→(lab x).head? ≠some o→T[x]? =S[x]?
theorem Step.refl {o:Nat} {S:List Ob} {lab:Lab} (h:FreshL S lab):Step o S lab S lab:=⟨Nat.le_refl _,h,fun _ _=>rfl,fun _ _ _=>rfl⟩
theorem Step.trans {o:Nat} {S T U:List Ob} {l m n:Lab} (h:Step o S l T m) (g:Step o T m U n):Step o S l U n where
 len:=Nat.le_trans h.len g.len
 fresh:=g.fresh
 labs x hx:=(g.labs x (Nat.lt_of_lt_of_le hx h.len)).trans (h.labs x hx)
 keep x hx hl:=(g.keep x (Nat.lt_of_lt_of_le hx h.len) (by rw[h.labs x hx];exact hl)).trans (h.keep x hx hl)
theorem lt_of_get {α:Type} {l:List α} {i:Nat} {x:α} (h:l[i]? =some x):i<l.length:=(List.getElem?_eq_some_iff.1 h).1
theorem FreshL.push {S:List Ob} {lab:Lab} (h:FreshL S lab) (J:List Ob):FreshL (S++J) lab:=fun x hx=>h x (by rw[List.length_append]at hx;omega)
theorem Step.push {o:Nat} {S:List Ob} {lab:Lab} (h:FreshL S lab) (J:List Ob):Step o S lab (S++J) lab where
 len:=by rw[List.length_append];omega
 fresh:=h.push J
 labs _ _:=rfl
 keep x hx _:=List.getElem?_append_left hx
def setL (lab:Lab) (x:Nat) (t:List Nat):Lab:=fun y=>if y=x then t else lab y
theorem setL_ne {lab:Lab} {x y:Nat} {t:List Nat} (h:y≠x):setL lab x t y=lab y:=by simp[setL,h]
theorem Step.add {o:Nat} {S:List Ob} {lab:Lab} (h:FreshL S lab) (ob:Ob) (t:List Nat):Step o S lab (S++[ob]) (setL lab S.length t) where
 len:=by rw[List.length_append];omega
 fresh x hx:=by
  rw[List.length_append,List.length_singleton]at hx
  rw[setL_ne (by omega)]
  exact h x (by omega)
 labs x hx:=setL_ne (by omega)
 keep x hx _:=List.getElem?_append_left hx
theorem Step.set {o:Nat} {S:List Ob} {lab:Lab} (h:FreshL S lab) {k:Nat} (ob:Ob) (hk:(lab k).head? =some o):Step o S lab (S.set k ob) lab where
 len:=by simp
 fresh x hx:=h x (by simpa using hx)
 labs _ _:=rfl
 keep x hx hl:=by
  rw[List.getElem?_set_ne]
  rintro rfl
  exact hl hk
theorem Step.other {o o':Nat} {S T:List Ob} {l m:Lab} (h:Step o S l T m) (ho:o'≠o) {x:Nat} {ob:Ob} {t:List Nat} (hx:S[x]? =some ob) (hl:l x=o'::t):T[x]? =some ob∧m x=o'::t:=by
 have hlt:=lt_of_get hx
 refine⟨by rw[h.keep x hlt (by rw[hl];simpa using ho)];exact hx,by rw[h.labs x hlt];exact hl⟩
theorem Step.free {o:Nat} {S T:List Ob} {l m:Lab} (h:Step o S l T m) {x:Nat} {ob:Ob} (hx:S[x]? =some ob) (hl:l x=[]):T[x]? =some ob∧m x=[]:=by
 have hlt:=lt_of_get hx
 refine⟨by rw[h.keep x hlt (by rw[hl];simp)];exact hx,by rw[h.labs x hlt];exact hl⟩

abbrev encZ (n:Int):List D:=[.int .i64 n]
def TabAt (S:List Ob) (lab:Lab) (o i:Nat) (d:D) (t:List (List Int)):Prop:=
 ∃(q:Nat) (r:Nat→Nat) (es:List (List D)),d=.os q 0 t.length false∧lab q=[o,2,i]∧S[q]? =some (.row 1 es)∧es.length=t.length∧
  ∀(j:Nat) (row:List Int),t[j]? =some row→es[j]? =some [.os (r j) 0 row.length false]∧lab (r j)=[o,3,i,j]∧S[r j]? =some (.row 1 (row.map encZ))
def KeepO (o:Nat) (S:List Ob) (lab:Lab) (T:List Ob) (lab':Lab):Prop:=∀(x:Nat) (ob:Ob) (t:List Nat),S[x]? =some ob→lab x=o::t→T[x]? =some ob∧lab' x=o::t
theorem KeepO.push {o:Nat} {S J:List Ob} {lab:Lab}:KeepO o S lab (S++J) lab:=fun _ _ _ hx hl=>⟨get_old hx,hl⟩
theorem TabAt.keep {S T:List Ob} {lab lab':Lab} {o i:Nat} {d:D} {t:List (List Int)} (h:TabAt S lab o i d t)
  (g:∀(x:Nat) (ob:Ob) (tl:List Nat),S[x]? =some ob→(lab x=[o,2,i]∨∃j,lab x=[o,3,i,j])→T[x]? =some ob∧lab' x=lab x):TabAt T lab' o i d t:=by
 obtain⟨q,r,es,rfl,hq,hs,hl,hr⟩:=h
 obtain⟨g1,g2⟩:=g q _ [] hs (.inl hq)
 refine⟨q,r,es,rfl,by rw[g2,hq],g1,hl,fun j row hj=>?_⟩
 obtain⟨h1,h2,h3⟩:=hr j row hj
 obtain⟨g1,g2⟩:=g (r j) _ [] h3 (.inr ⟨j,h2⟩)
 exact⟨h1,by rw[g2,h2],g1⟩
theorem modify_get {α:Type} {l:List α} {i j:Nat} {f:α→α} {y:α} (h:(l.modify i f)[j]? =some y):∃x,l[j]? =some x∧y=if i=j then f x else x:=by
 rw[List.getElem?_modify]at h
 cases hx:l[j]? with
 |none=>rw[hx]at h;cases h
 |some x=>
  rw[hx]at h
  refine⟨x,rfl,?_⟩
  have:=Option.some.inj h
  rw[←this]
theorem TabAt.add {S:List Ob} {lab:Lab} {o i a b:Nat} {d:D} {t:List (List Int)} {row:List Int} {r:Nat} {n:Int} (h:TabAt S lab o i d t) (ha:t[a]? =some row) (hl:lab r=[o,3,i,a]) (hr:∃(q:Nat) (es:List (List D)),d=.os q 0 t.length false∧S[q]? =some (.row 1 es)∧es[a]? =some [.os r 0 row.length false]):
  TabAt (S.set r (.row 1 ((row.modify b (· +n)).map encZ))) lab o i d (addAt t a b n):=by
 obtain⟨q,f,es,rfl,hq,hs,hel,hf⟩:=h
 obtain⟨q',es',e1,hs',hes'⟩:=hr
 cases e1
 rw[hs]at hs'
 injection hs' with hs'
 injection hs' with _ hs'
 subst hs'
 obtain⟨f1,f2,f3⟩:=hf a row ha
 have hfr:f a=r:=by
  rw[f1]at hes'
  simpa using hes'
 have hne:r≠q:=by rintro rfl;rw[hl]at hq;simp at hq
 refine⟨q,f,es,by rw[addAt,List.length_modify],hq,by rw[List.getElem?_set_ne hne];exact hs,by rw[addAt,List.length_modify];exact hel,fun j y hj=>?_⟩
 obtain⟨x,hx,rfl⟩:=modify_get hj
 obtain⟨g1,g2,g3⟩:=hf j x hx
 by_cases haj:a=j
 ·subst haj
  rw[ha]at hx
  cases hx
  rw[if_pos rfl,hfr,List.length_modify]
  rw[hfr]at g1 g2 g3
  exact⟨g1,g2,List.getElem?_set_self (lt_of_get g3)⟩
 ·rw[if_neg haj]
  refine⟨g1,g2,?_⟩
  rw[List.getElem?_set_ne]
  ·exact g3
  ·intro e
   rw[e,g2]at hl
   simp at hl
   omega

/-! ### The program's inventory -/
abbrev legCells (x:Leg) (d:D):List D:=[.str x.cfg.equip,.sl 4 (x.cfg.cabs.map Cab.enc) x.cfg.cabsx,d,.bool x.closed]
def LegAt (S:List Ob) (lab:Lab) (o i p:Nat) (x:Leg):Prop:=
 lab p=[o,1,i]∧∃d,S[p]? =some (.row 4 [legCells x d])∧TabAt S lab o i d x.sold
structure StkAt (S:List Ob) (lab:Lab) (o:Nat) (kt:TypeId) (d:D) (s:Stk) (k m:Nat) (ps:List (D×D)):Prop where
 dat:d=.loc k 0 0
 labk:lab k=[o,0]
 labm:lab m=[o,4]
 row:S[k]? =some (.row 2 [[.sl 2 (s.l.map Cfg.enc) s.x,.map m]])
 map:S[m]? =some (.map kt ps)
 len:ps.length=s.legs.length
 leg:∀(i:Nat) (id:Lid) (x:Leg),s.legs[i]? =some (id,x)→∃p,ps[i]? =some (.agg id.enc,.loc p 0 0)∧LegAt S lab o i p x
theorem LegAt.keep {S T:List Ob} {lab lab':Lab} {o i p:Nat} {x:Leg} (h:LegAt S lab o i p x) (g:KeepO o S lab T lab'):LegAt T lab' o i p x:=by
 obtain⟨h1,d,h2,h3⟩:=h
 obtain⟨g1,g2⟩:=g p _ _ h2 h1
 refine⟨g2,d,g1,h3.keep fun y ob tl hy hl=>?_⟩
 rcases hl with hl | ⟨j,hl⟩
 ·obtain⟨g1,g2⟩:=g y _ _ hy hl
  exact⟨g1,by rw[g2,hl]⟩
 ·obtain⟨g1,g2⟩:=g y _ _ hy hl
  exact⟨g1,by rw[g2,hl]⟩
theorem StkAt.keep {S T:List Ob} {lab lab':Lab} {o:Nat} {kt:TypeId} {d:D} {s:Stk} {k m:Nat} {ps:List (D×D)} (h:StkAt S lab o kt d s k m ps) (g:KeepO o S lab T lab'):StkAt T lab' o kt d s k m ps where
 dat:=h.dat
 labk:=(g k _ _ h.row h.labk).2
 labm:=(g m _ _ h.map h.labm).2
 row:=(g k _ _ h.row h.labk).1
 map:=(g m _ _ h.map h.labm).1
 len:=h.len
 leg i id x hx:=by
  obtain⟨p,h1,h2⟩:=h.leg i id x hx
  exact⟨p,h1,h2.keep g⟩

/-! ### Keys -/
theorem key_eq (a b:Lid):keyBeq (.agg a.enc) (.agg b.enc)=decide (a=b):=by
 cases a;cases b
 simp only[keyBeq,Lid.enc,kBeqs,kBeq,decide_true,Bool.true_and,Bool.and_true,Lid.mk.injEq]
 rw[Bool.eq_iff_iff]
 simp
theorem look_go {S:List Ob} {lab:Lab} {o:Nat} {id:Lid}:∀(ps:List (D×D)) (legs:List (Lid×Leg)) (n:Nat),ps.length=legs.length→(∀(i:Nat) (id:Lid) (x:Leg),legs[i]? =some (id,x)→∃p,ps[i]? =some (.agg id.enc,.loc p 0 0)∧LegAt S lab o (i+n) p x)→
  (getL legs id=none∧lookM ps (.agg id.enc)=none)∨∃i x p,legs[i]? =some (id,x)∧(∀j y,j<i→legs[j]? =some y→y.1≠id)∧getL legs id=some x∧lookM ps (.agg id.enc)=some (.loc p 0 0)∧ps[i]? =some (.agg id.enc,.loc p 0 0)∧LegAt S lab o (i+n) p x
 | [],[],_,_,_=>.inl ⟨rfl,rfl⟩
 |q::ps,(id',x)::legs,n,hl,h=>by
  obtain⟨p,h1,h2⟩:=h 0 id' x rfl
  have hq:q=(.agg id'.enc,.loc p 0 0):=by simpa using h1
  subst hq
  by_cases e:id'=id
  ·subst e
   refine .inr ⟨0,x,p,rfl,fun j y hj=>by omega,?_,?_,rfl,h2⟩
   ·simp[getL]
   ·simp[lookM,key_eq]
  ·have hk:keyBeq (.agg id'.enc) (.agg id.enc)=false:=by rw[key_eq];exact decide_eq_false e
   rcases look_go ps legs (n+1) (by simpa using hl) (fun i id x hx=>by
    obtain⟨p,h1,h2⟩:=h (i+1) id x (by simpa using hx)
    exact⟨p,by simpa using h1,by rw[show i+(n+1)=i+1+n by omega];exact h2⟩) with ⟨g1,g2⟩ | ⟨i,y,p',g1,g0,g2,g3,g4,g5⟩
   ·refine .inl ⟨?_,?_⟩
    ·simpa [getL,e] using g1
    ·simpa [lookM,hk] using g2
   ·refine .inr ⟨i+1,y,p',by simpa using g1,fun j y hj hy=>?_,?_,?_,by simpa using g4,by rw[show i+1+n=i+(n+1) by omega];exact g5⟩
    ·cases j with
     |zero=>have:(id',x)=y:=by simpa using hy
            rw[←this];exact e
     |succ j=>exact g0 j y (by omega) (by simpa using hy)
    ·simpa [getL,e] using g2
    ·simpa [lookM,hk] using g3
theorem StkAt.look {S:List Ob} {lab:Lab} {o:Nat} {kt:TypeId} {d:D} {s:Stk} {k m:Nat} {ps:List (D×D)} (h:StkAt S lab o kt d s k m ps) (id:Lid):
  (s.get id=none∧lookM ps (.agg id.enc)=none)∨∃i x p,s.legs[i]? =some (id,x)∧(∀j y,j<i→s.legs[j]? =some y→y.1≠id)∧s.get id=some x∧lookM ps (.agg id.enc)=some (.loc p 0 0)∧ps[i]? =some (.agg id.enc,.loc p 0 0)∧LegAt S lab o i p x:=by
 have:=look_go (id:=id) ps s.legs 0 h.len (fun i id x hx=>h.leg i id x hx)
 exact this
end Go.Proofs.YtaklebjoenophaaGreat.Dm
namespace Go.Proofs.YtaklebjoenophaaGreat.Dm
open Go Gw
set_option linter.unusedSimpArgs false
set_option linter.unusedSimpArgs false

/-! ### Words -/
theorem exts_split {S T:List Ob} (h:ExtS S T):∃J,T=S++J:=by
 refine⟨T.drop S.length,List.ext_getElem? fun k=>?_⟩
 by_cases hk:k<S.length
 ·rw[List.getElem?_append_left hk,List.getElem?_eq_getElem hk]
  exact h k _ (List.getElem?_eq_getElem hk)
 ·rw[List.getElem?_append_right (by omega),List.getElem?_drop]
  congr 1
  omega
theorem Gw.ExtS.set {S T:List Ob} (h:ExtS S T) {k:Nat} (hk:S.length≤k) (o:Ob):ExtS S (T.set k o):=fun j x hj=>by
 have:=lt_of_get hj
 rw[List.getElem?_set_ne (by omega)]
 exact h j x hj
theorem Gw.ExtS.len {S T:List Ob} (h:ExtS S T):S.length≤T.length:=by
 obtain⟨J,rfl⟩:=exts_split h
 rw[List.length_append];omega
section
variable {call : Call} {st : Bool} {S : List Ob} {f : FuncId} {args : List D} {d d' : D} {T : List Ob}
end
def rowH (n:Nat) (h:Nat→Int):List (List D):=(List.range n).map fun j=>encZ (h j)
def rngI (l:List Int):Prop:=∀v∈l,0≤v∧v≤9999
/-! ### Numbers that are right -/
def outB (v:Int):Bool:=decide (v<0) || decide (9999<v)
def rightB (y:Cab) (sold:List Int):Bool:=decide (sold.length=y.cls.length) && !sold.any outB
/-! ### Limits -/
abbrev cabR (y:Cab):Ob:=.row 4 [[.str y.name,.int .i64 y.seats,.int .i64 y.over,.sl 2 (y.cls.map Cls.enc) y.clsx]]
/-! ### What is left below the limits -/
def lsF (y:Cab) (l:List Int):Nat→Int
 |0=>1099511627776
 |i+1=>avF y l i
end Go.Proofs.YtaklebjoenophaaGreat.Dm
namespace Go.Proofs.YtaklebjoenophaaGreat.Dm
open Go Gw
set_option linter.unusedSimpArgs false
set_option linter.unusedSimpArgs false

def upTo (f:Nat→Int) (i:Nat):List Int:=(List.range i).map f
def mnF (y:Cab) (l:List Int) (i:Nat):Nat→Int
 |0=>spF y l i
 |k+1=>min (mnF y l i k) (spF y l k)
end Go.Proofs.YtaklebjoenophaaGreat.Dm
namespace Go.Proofs.YtaklebjoenophaaGreat.Dm
open Go Gw
set_option linter.unusedSimpArgs false
set_option linter.unusedSimpArgs false

/-! ### Keys and pointers -/
section
variable {S : List Ob} {lab : Lab} {o k m n : Nat} {c0 : D} {ps : List (D × D)}
end

/-! ### A leg -/
theorem LegAt.parts {S:List Ob} {lab:Lab} {o i p:Nat} {x:Leg} (h:LegAt S lab o i p x):∃q es,S[p]? =some (.row 4 [[.str x.cfg.equip,.sl 4 (x.cfg.cabs.map Cab.enc) x.cfg.cabsx,.os q 0 x.sold.length false,.bool x.closed]])∧S[q]? =some (.row 1 es)∧lab q=[o,2,i]∧
  ∀(j:Nat) (row:List Int),x.sold[j]? =some row→∃r,es[j]? =some [.os r 0 row.length false]∧lab r=[o,3,i,j]∧S[r]? =some (.row 1 (row.map encZ)):=by
 obtain⟨-,d,h1,q,r,es,rfl,h2,h3,h4,h5⟩:=h
 exact⟨q,es,h1,h3,h2,fun j row hj=>⟨r j,h5 j row hj⟩⟩
section
variable {S : List Ob} {lab : Lab} {o i p n : Nat} {x : Leg} {l : List Cfg}
end

/-! ### The inventory -/
section
variable {S : List Ob} {lab : Lab} {o k m n : Nat} {s : Stk} {ps : List (D × D)} {id : Lid}
def equipD:Option ByteArray→D
 |some e=>.tup [.str e,.bool true]
 |none=>.tup [.str (ByteArray.mk #[]),.bool false]
def excT (x:Leg):Nat→Int
 |0=>0
 |c+1=>match x.cfg.cabs[c]?,x.sold[c]? with
  |some y,some row=>max (excT x c) (excF y row row.length)
  |_,_=>excT x c
end
end Go.Proofs.YtaklebjoenophaaGreat.Dm
namespace Go.Proofs.YtaklebjoenophaaGreat.Dm
open Go Gw
set_option linter.unusedSimpArgs false
set_option linter.unusedSimpArgs false

/-! ### Appends of violations -/
theorem sz_fault:sizeT Tryz.prog 112=some 2:=by kernel_rfl
theorem ze_fault:zeroT Tryz.prog 112=some (.agg [.int .i64 0,.str (ByteArray.mk #[])]):=by kernel_rfl
theorem by_fault24:bytesT Tryz.prog 112=24:=by kernel_rfl
def FaultOb (o:Ob):Prop:=∃fs:List (Int×ByteArray),o=.row 2 (fs.map encF)
def KeepF (T T':List Ob):Prop:=∀(j:Nat) (ob:Ob),¬FaultOb ob→T[j]? =some ob→T'[j]? =some ob
theorem KeepF.refl {T:List Ob}:KeepF T T:=fun _ _ _ h=>h
theorem KeepF.trans {T U V:List Ob} (h:KeepF T U) (g:KeepF U V):KeepF T V:=fun j ob n hj=>g j ob n (h j ob n hj)
theorem KeepF.push {T:List Ob} {o:Ob}:KeepF T (T++[o]):=fun _ _ _ h=>get_old h
theorem not_fault2 {s:ByteArray} {d:D}:¬FaultOb (.row 2 [[.str s,d]]):=by
 rintro⟨fs,h⟩
 injection h with _ h
 cases fs with
 |nil=>cases h
 |cons f fs=>
  rw[List.map_cons]at h
  injection h with h _
  simp[encF]at h
theorem not_fault4 {a b c d:D}:¬FaultOb (.row 4 [[a,b,c,d]]):=by
 rintro⟨fs,h⟩
 injection h with h
 omega
theorem app_if {T:List Ob} {d:D} {fs:List (Int×ByteArray)} (h:GL 2 encF T d fs) (hl:fs.length≤5000000000000) (b:Bool) (e:Int) (s:ByteArray):
  ∃d' T',(b=true→dAppend Tryz.prog T 51 51 d (.sl 2 [[.int .i64 e,.str s]] true)=some (d',T'))∧(b=false→d'=d∧T'=T)∧GL 2 encF T' d' (fs++ifF b e s)∧KeepF T T':=by
 cases b
 ·exact⟨d,T,(fun h=>by cases h),fun _=>⟨rfl,rfl⟩,by rw[ifF,if_neg (by simp),List.append_nil];exact h,KeepF.refl⟩
 ·obtain⟨S',h1,h2,h3,h4,h5⟩:=app_glB el_fault sz_fault ze_fault rfl (by rw[by_fault24];omega) (by unfold maxLen;omega) h (e,s)
  refine⟨_,S',fun _=>h1,(fun h=>by cases h),by rw[ifF,if_pos rfl];exact h2,fun j ob hn hj=>h4 j ob (fun n e=>?_) hj⟩
  rcases h with ⟨e',-⟩ | ⟨k,e',hk⟩
  ·rw[e]at e';cases e'
  ·rw[e]at e'
   cases e'
   rw[hk]at hj
   exact hn ⟨fs,(Option.some.inj hj).symm⟩
theorem app_fls {T:List Ob} {d x:D} {fs gs:List (Int×ByteArray)} (h:GL 2 encF T d fs) (hx:FLs 2 encF x gs) (hl:fs.length+gs.length≤5000000000000):
  ∃d' T',dAppend Tryz.prog T 51 51 d x=some (d',T')∧GL 2 encF T' d' (fs++gs)∧KeepF T T':=by
 have hb:bytesT Tryz.prog 112=24:=by kernel_rfl
 have hsrc:srcOf T (1+1) x=some (gs.map encF):=by
  rcases hx with ⟨rfl,rfl⟩ | ⟨y,rfl⟩
  ·rfl
  ·simp[srcOf]
 have hold:srcOf T (1+1) d=some (fs.map encF):=by
  rcases h with ⟨rfl,rfl⟩ | ⟨k,rfl,hk⟩
  ·rfl
  ·have:(List.map encF fs).take fs.length=List.map encF fs:=List.take_of_length_le (by simp)
   simp[srcOf,hk,this]
 by_cases hg:gs=[]
 ·subst hg
  refine⟨d,T,?_,by rw[List.append_nil];exact h,KeepF.refl⟩
  unfold dAppend
  rw[if_pos rfl,el_fault]
  dsimp only
  rw[sz_fault,ze_fault]
  dsimp only
  rw[if_pos (show (D.agg [D.int IntKind.i64 0,D.str (ByteArray.mk #[])]).cells.length=1+1 from rfl),hold,hsrc]
  simp
 ·have hgl:¬(gs.map encF).length=0:=by
   rw[List.length_map]
   exact fun e=>hg (List.eq_nil_of_length_eq_zero e)
  have hm:(fs.map encF).length+(gs.map encF).length≤maxLen∧((fs.map encF).length+(gs.map encF).length)*24≤140737488355328:=by
   simp only[List.length_map,maxLen];omega
  rcases h with ⟨rfl,rfl⟩ | ⟨k,rfl,hk⟩
  ·refine⟨.os T.length 0 gs.length false,T++[.row 2 (gs.map encF)],?_,.inr ⟨T.length,rfl,get_end⟩,KeepF.push⟩
   unfold dAppend
   rw[if_pos rfl,el_fault]
   dsimp only
   rw[sz_fault,ze_fault]
   dsimp only
   rw[if_pos (show (D.agg [D.int IntKind.i64 0,D.str (ByteArray.mk #[])]).cells.length=1+1 from rfl),hold,hsrc]
   dsimp only
   rw[if_neg hgl,hb,if_pos hm,List.length_map]
  ·refine⟨.os T.length 0 (fs++gs).length false,T.set k .dead++[.row 2 ((fs++gs).map encF)],?_,.inr ⟨T.length,rfl,get_end'⟩,fun j ob hn hj=>?_⟩
   ·unfold dAppend
    rw[if_pos rfl,el_fault]
    dsimp only
    rw[sz_fault,ze_fault]
    dsimp only
    rw[if_pos (show (D.agg [D.int IntKind.i64 0,D.str (ByteArray.mk #[])]).cells.length=1+1 from rfl),hold,hsrc]
    dsimp only
    rw[if_neg hgl,hb,if_pos hm]
    simp[hk]
   ·refine get_old ?_
    rw[List.getElem?_set_ne]
    ·exact hj
    ·rintro rfl
     rw[hk]at hj
     exact hn ⟨fs,(Option.some.inj hj).symm⟩

/-! ### Texts and numbers -/
theorem ba_len (a b:ByteArray):(a++b).size=a.size+b.size:=ByteArray.size_append
theorem mx_of {a b:ByteArray} (h:a.size+b.size≤1000):¬IntKind.i64.max<(a.size:Int)+(b.size:Int):=by
 show ¬(9223372036854775807:Int)<_
 omega
theorem lett_cls (s:ByteArray):lettS s 1=clsB s:=by
 unfold lettS clsB
 by_cases h:s.size=1
 ·rw[h]
  simp only[decide_true,Bool.true_and]
  obtain⟨b,hb⟩:=byte_at' (s:=s) (i:=0) (by omega)
  simp[evr,hb]
 ·rw[decide_eq_false h];rfl
theorem r01_class {n:Nat} {s:ByteArray} (hn:s.size+5<n) (hz:s.size≤9223372036854775807) (st:Bool) (S:List Ob):callD E (dcall E n) st S 107 [.str s]=some (.bool (clsB s),S):=by
 obtain⟨m,rfl⟩:∃m,n=m+2:=⟨n-2,by omega⟩
 have q:∀st S,callD E (dcall E (m+1)) st S 149 [.str s,.int .i64 1]=some (.bool (clsB s),S):=fun st S=>by
  rw[←lett_cls]
  exact callD_pure rfl rfl (eq_of_wo (letters_d (k:=1) (by omega) hz)) rfl
 have:WO (dcall E (m+2) 107 [.str s] []) fun d T=>d=.bool (clsB s)∧T=[]:=by
  refine wo_dcall Tryz.func107 rfl (by decide) rfl 5 rfl (fun a hal ha=>?_)
  have h0:a[0]? =some (.str s):=ha 0 (by simp)
  clear ha
  simp(maxSteps:=1000000)(disch:=omega)only[push_cast,decide_not,decide_eq_true_eq,decide_eq_false_iff_not,bne_eq_false_iff_eq,beq_eq_false_iff_ne,gt_iff_lt,ne_eq,not_true_eq_false,not_false_eq_true,hal,h0,q,Tryz.f107,↓WX,simprocAttr]
 exact callD_pure rfl rfl (eq_of_wo this) rfl

/-! ### Classes that occur before -/
/-! ### The violations of the classes of a cabin -/
structure CfgZ (n:Nat) (c:Cfg):Prop where
 eq:c.equip.size+20<n∧c.equip.size≤9223372036854775807
 nm:∀y∈c.cabs,y.name.size+20<n∧y.name.size≤9223372036854775807
 cl:∀y∈c.cabs,∀z∈y.cls,z.code.size+20<n∧z.code.size≤9223372036854775807
end Go.Proofs.YtaklebjoenophaaGreat.Dm
namespace Go.Proofs.YtaklebjoenophaaGreat.Dm
open Go Gw
set_option linter.unusedSimpArgs false

def sameC (c q:Cnn):Bool:=(q.a.toList == c.a.toList) && (q.i.toList == c.i.toList) && (q.o.toList == c.o.toList)
def badC (c:Cnn):Bool:= !(eqS c.a emp || lettS c.a 3) || !(eqS c.i emp || carS c.i) || !(eqS c.o emp || carS c.o)
def outC (c:Cnn):Bool:=decide (c.m<0) || decide (1440<c.m)
def conS (i:Nat):ByteArray:=ByteArray.mk #[99,111,110,110,101,99,116,32]++dec2 i
def conF (i:Nat) (pre:List Cnn) (c:Cnn):List (Int×ByteArray):=ifF (badC c) 5 (conS i)++ifF (outC c) 2 (conS i)++ifF (pre.any (sameC c)) 6 (conS i)
def conL (l:List Cnn):Nat→List (Int×ByteArray)
 |0=>[]
 |i+1=>conL l i++match l[i]? with
  |some c=>conF i (l.take i) c
  |none=>[]
def Gr (T:List Ob) (a:List D) (k:Nat) (fs:List (Int×ByteArray)):Prop:=∃d,a[k]? =some d∧GV T d fs
end Go.Proofs.YtaklebjoenophaaGreat.Dm
namespace Go.Proofs.YtaklebjoenophaaGreat.Dm
open Go Gw
theorem ex28_d:isT (dcall E 400 9 [] [])=true:=by kernel_rfl
theorem ex28_c {n:Nat} (hn:400≤n) (st:Bool) (S:List Ob):callD E (dcall E n) st S 9 []=some (.bool true,S):=by
 obtain⟨T,hT⟩:=isT_spec ex28_d
 exact callD_up hn (callD_pure rfl rfl hT rfl)
end Go.Proofs.YtaklebjoenophaaGreat.Dm
