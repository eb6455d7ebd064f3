/-
  How the machine's data stand for values in memory, and what a step keeps of them.
  The machine's Yj that read, and how its store turns: each is what the model does.
  The machine's stores, addresses, fields, indexes and slices: each is what the model does.
-/
import Derived.Test.YtaklebjoenophaaGreatDm
import Derived.Below
import Derived.Laws.CopyRow
set_option linter.unusedSimpArgs false
set_option linter.unusedVariables false
namespace Go.Proofs.YtaklebjoenophaaGreat.Dm
open Go Go.RowKit
structure Cx where
 P:Program
 R:Nat->Option (Nat×Nat×Nat×TypeId)
 I:Nat->Prop
inductive VR (W:World) (C:Cx):D->Value->Prop where
 |undef (v:Value):VR W C .undef v
 |bool (b:Bool):VR W C (.bool b) (.bool b)
 |int (k:IntKind) (n:Int):VR W C (.int k n) (.int k n)
 |str (s:ByteArray):VR W C (.str s) (.string s)
 |nilp:VR W C .nilp (.pointer none)
 |ref {cs:List D} {o g b:Nat} (vs:Nat->Value) (hg:C.I g) (hc:∀j,j<cs.length->W.cell? ⟨g,b+j,none⟩=some (vs j)) (hv:∀(j:Nat) (c:D),cs[j]?=some c->VR W C c (vs j)):VR W C (.ref cs o) (.pointer (some ⟨g,b+o,none⟩))
 |loc {k i o g sz tot:Nat} {T:TypeId} (hr:C.R k=some (g,sz,tot,T)):VR W C (.loc k i o) (.pointer (some ⟨g,i*sz+o,none⟩))
 |nils:VR W C .nils (.slice none 0 0)
 |sl {sz:Nat} {es:List (List D)} {x:Bool} {g b cap:Nat} (vs:Nat->Nat->Value) (hp:0<es.length) (hg:C.I g) (hcap:es.length<=cap) (hx:x=true->cap=es.length)
   (hs:∀(i:Nat) (e:List D),es[i]?=some e->e.length=sz) (hc:∀i j,i<es.length->j<sz->W.cell? ⟨g,b+(i*sz+j),none⟩=some (vs i j)) (ho:∀(i j:Nat) (e:List D) (c:D),es[i]?=some e->e[j]?=some c->c.one=true) (hv:∀(i j:Nat) (e:List D) (c:D),es[i]?=some e->e[j]?=some c->VR W C c (vs i j)):
   VR W C (.sl sz es x) (.slice (some ⟨g,b,none⟩) es.length cap)
 |sl0 {sz:Nat} {x:Bool} {a:Option Addr} {cap:Nat} (hx:x=true->cap=0):VR W C (.sl sz [] x) (.slice a 0 cap)
 |os {k i len:Nat} {x:Bool} {g sz tot cap:Nat} {T:TypeId} (hr:C.R k=some (g,sz,tot,T)) (hl:len<=cap) (hx:x=true->cap=len) (hx':x=false->(i+cap)*sz=tot) (hx'':(i+cap)*sz<=tot):
   VR W C (.os k i len x) (.slice (some ⟨g,i*sz,none⟩) len cap)
 |osc {k i len cap g sz tot:Nat} {T:TypeId} (hr:C.R k=some (g,sz,tot,T)) (hl:len<=cap) (hc:(i+cap)*sz=tot):VR W C (.osc k i len cap) (.slice (some ⟨g,i*sz,none⟩) len cap)
 |nilm:VR W C .nilm (.map none)
 |map {k g sz tot:Nat} {T:TypeId} (hr:C.R k=some (g,sz,tot,T)):VR W C (.map k) (.map (some g))
 |it0 {g since last:Nat} {seen:Array Nat} (hg:C.I g) (hh:W.heap[g]?=some (.mapIter none since seen last)):VR W C .it0 (.pointer (some ⟨g,0,none⟩))
 |itE {k g gm sz tot since last:Nat} {T:TypeId} (hr:C.R k=some (gm,sz,tot,T)) (hg:C.I g) (hh:W.heap[g]?=some (.mapIter (some gm) since #[] last)) (hl:since<=last):VR W C (.itE k) (.pointer (some ⟨g,0,none⟩))
 |nilf:VR W C .nilf .nilFunc
 |func {f:FuncId} {x y:List D} {vx vy:Array Value} (hx:x.length=vx.size) (hy:y.length=vy.size) (hvx:∀(j:Nat) (d:D) (v:Value),x[j]?=some d->vx[j]?=some v->VR W C d v) (hvy:∀(j:Nat) (d:D) (v:Value),y[j]?=some d->vy[j]?=some v->VR W C d v):VR W C (.func f x y) (.func (.func f) vx vy)
 |nili:VR W C .nili .nilIface
 |iface {t:TypeId} {d:D} {v:Value} (h:VR W C d v):VR W C (.iface t d) (.iface t v)
 |agg {cs:List D} {vs:Array Value} (hl:cs.length=vs.size) (hv:∀(j:Nat) (d:D) (v:Value),cs[j]?=some d->vs[j]?=some v->VR W C d v):VR W C (.agg cs) (.agg vs)
 |tup {ds:List D} {vs:Array Value} (hl:ds.length=vs.size) (hv:∀(j:Nat) (d:D) (v:Value),ds[j]?=some d->vs[j]?=some v->VR W C d v):VR W C (.tup ds) (.tuple vs)
theorem VR.mono {W W':World} {C C':Cx} (hI:∀g,C.I g->C'.I g/\W'.heap[g]?=W.heap[g]?) (hR:∀k x,C.R k=some x->C'.R k=some x) {d:D} {v:Value} (h:VR W C d v):VR W' C' d v:=by
 induction h with
 |undef v=>exact .undef v
 |bool b=>exact .bool b
 |int k n=>exact .int k n
 |str s=>exact .str s
 |nilp=>exact .nilp
 |ref vs hg hc hv ih=>exact .ref vs (hI _ hg).1 (λj hj=>(World.cell?_of_block (w:=W) (w':=W') (hI _ hg).2).trans (hc j hj)) ih
 |loc hr=>exact .loc (hR _ _ hr)
 |nils=>exact .nils
 |sl vs hp hg hcap hx hs hc ho hv ih=>exact .sl vs hp (hI _ hg).1 hcap hx hs (λi j hi hj=>(World.cell?_of_block (w:=W) (w':=W') (hI _ hg).2).trans (hc i j hi hj)) ho ih
 |sl0 hx=>exact .sl0 hx
 |os hr hl hx hx' hx''=>exact .os (hR _ _ hr) hl hx hx' hx''
 |osc hr hl hc=>exact .osc (hR _ _ hr) hl hc
 |nilm=>exact .nilm
 |map hr=>exact .map (hR _ _ hr)
 |it0 hg hh=>exact .it0 (hI _ hg).1 ((hI _ hg).2.trans hh)
 |itE hr hg hh hl=>exact .itE (hR _ _ hr) (hI _ hg).1 ((hI _ hg).2.trans hh) hl
 |nilf=>exact .nilf
 |func hx hy _ _ ih1 ih2=>exact .func hx hy ih1 ih2
 |nili=>exact .nili
 |iface _ ih=>exact .iface ih
 |agg hl _ ih=>exact .agg hl ih
 |tup hl _ ih=>exact .tup hl ih
def VRs (W:World) (C:Cx) (ds:List D) (vs:List Value):Prop:=ds.length=vs.length/\∀(j:Nat) (d:D) (v:Value),ds[j]?=some d->vs[j]?=some v->VR W C d v
theorem VRs.nil {W:World} {C:Cx}:VRs W C [] []:=⟨rfl,λj d v h=>by simp at h⟩
theorem VRs.cons {W:World} {C:Cx} {d:D} {v:Value} {ds:List D} {vs:List Value} (h:VR W C d v) (hs:VRs W C ds vs):VRs W C (d::ds) (v::vs):=by
 refine⟨by simp[hs.1],λj a b ha hb=>?_⟩
 cases j with
 |zero=>simp at ha hb;subst ha;subst hb;exact h
 |succ j=>exact hs.2 j a b (by simpa using ha) (by simpa using hb)
theorem VRs.get {W:World} {C:Cx} {ds:List D} {vs:List Value} (h:VRs W C ds vs) {j:Nat} {d:D} (hj:ds[j]?=some d):∃v,vs[j]?=some v/\VR W C d v:=by
 have hl:j<vs.length:=by rw[<-h.1];exact (Kr.1 hj).1
 exact⟨vs[j],Uh hl,h.2 j _ _ hj (Uh hl)⟩
theorem VRs.head {W:World} {C:Cx} {d:D} {ds:List D} {v:Value} {vs:List Value} (h:VRs W C (d::ds) (v::vs)):VR W C d v:=h.2 0 _ _ rfl rfl
theorem VRs.tail {W:World} {C:Cx} {d:D} {ds:List D} {v:Value} {vs:List Value} (h:VRs W C (d::ds) (v::vs)):VRs W C ds vs:=
 ⟨by simpa using h.1,λj a b ha hb=>h.2 (j+1) a b (by simpa using ha) (by simpa using hb)⟩
theorem VRs.mono {W W':World} {C C':Cx} {ds:List D} {vs:List Value} (h:VRs W C ds vs) (hm:∀d v,VR W C d v->VR W' C' d v):VRs W' C' ds vs:=⟨h.1,λj d v hd hv=>hm _ _ (h.2 j d v hd hv)⟩
theorem VRs.append {W:World} {C:Cx} {a b:List D} {v u:List Value} (h:VRs W C a v) (k:VRs W C b u):VRs W C (a++b) (v++u):=by
 refine⟨by simp[h.1,k.1],λj d w hd hw=>?_⟩
 by_cases hj:j<a.length
 ·rw[Ut hj]at hd
  rw[Ut (by rw[<-h.1];exact hj)]at hw
  exact h.2 j d w hd hw
 ·rw[Vh (by omega)]at hd
  rw[Vh (by rw[<-h.1];omega)]at hw
  exact k.2 _ d w hd (by rw[h.1];exact hw)
theorem VRs.drop {W:World} {C:Cx} {a:List D} {v:List Value} (h:VRs W C a v) (n:Nat):VRs W C (a.drop n) (v.drop n):=
 ⟨by simp[h.1],λj d w hd hw=>h.2 (n+j) d w (by simpa using hd) (by simpa using hw)⟩
theorem VRs.take {W:World} {C:Cx} {a:List D} {v:List Value} (h:VRs W C a v) (n:Nat):VRs W C (a.take n) (v.take n):=by
 refine⟨by simp[h.1],λj d w hd hw=>?_⟩
 rw[List.getElem?_take]at hd hw
 split at hd
 ·rename_i hj;rw[if_pos hj]at hw;exact h.2 j d w hd hw
 ·cases hd
theorem VRs.set {W:World} {C:Cx} {a:List D} {v:List Value} (h:VRs W C a v) (n:Nat) {d:D} {u:Value} (hd:VR W C d u):VRs W C (a.set n d) (v.set n u):=by
 refine⟨by simp[h.1],λj x y hx hy=>?_⟩
 rw[List.getElem?_set]at hx hy
 by_cases hj:n=j
 ·subst hj
  rw[if_pos rfl]at hx hy
  by_cases hl:n<a.length
  ·rw[if_pos hl]at hx;rw[if_pos (by rw[<-h.1];exact hl)]at hy
   cases hx;cases hy;exact hd
  ·rw[if_neg hl]at hx;cases hx
 ·rw[if_neg hj]at hx hy;exact h.2 j x y hx hy
theorem VR.of_agg {W:World} {C:Cx} {cs:List D} {v:Value} (h:VR W C (.agg cs) v):∃vs,v=.agg vs/\VRs W C cs vs.toList:=by
 cases h with
 |agg hl hv=>exact⟨_,rfl,by simpa using hl,λj d u hd hu=>hv j d u hd (by simpa using hu)⟩
theorem VR.agg_of {W:World} {C:Cx} {cs:List D} {vs:List Value} (h:VRs W C cs vs):VR W C (.agg cs) (.agg vs.toArray):=
 .agg (by simpa using h.1) (λj d u hd hu=>h.2 j d u hd (by simpa using hu))
theorem VR.of_tup {W:World} {C:Cx} {cs:List D} {v:Value} (h:VR W C (.tup cs) v):∃vs,v=.tuple vs/\VRs W C cs vs.toList:=by
 cases h with
 |tup hl hv=>exact⟨_,rfl,by simpa using hl,λj d u hd hu=>hv j d u hd (by simpa using hu)⟩
theorem VR.tup_of {W:World} {C:Cx} {cs:List D} {vs:List Value} (h:VRs W C cs vs):VR W C (.tup cs) (.tuple vs.toArray):=
 .tup (by simpa using h.1) (λj d u hd hu=>h.2 j d u hd (by simpa using hu))
theorem VR.one {W:World} {C:Cx} {d:D} {v:Value} (h:VR W C d v) (h1:d.one=true):v.oneCell'=true:=by
 cases h <;> first |rfl | (simp[D.one]at h1)
theorem VR.cells {W:World} {C:Cx} {d:D} {v:Value} (h:VR W C d v) (h1:d≠.undef):VRs W C d.cells v.cells.toList:=by
 cases h with
 |undef v=>exact absurd rfl h1
 |agg hl hv=>exact⟨by simpa [D.cells,Value.cells] using hl,λj d u hd hu=>hv j d u hd (by simpa [Value.cells] using hu)⟩
 |_=>refine VRs.cons ?_ VRs.nil;constructor <;> assumption
theorem fromCell_vr {W:World} {C:Cx} {v:Value} {d:D} (h:fromCell v=some d):VR W C d v:=by
 unfold fromCell at h
 split at h
 case h_8 f a b=>
  split at h
  ·rename_i h0
   cases h
   refine .func (by simpa using h0.1.symm) (by simpa using h0.2.symm) ?_ ?_ <;> intro j d v hd <;> simp at hd
  ·cases h
 all_goals first | (cases h;constructor) |cases h
theorem fromCells_vr {W:World} {C:Cx}:∀ {vs:List Value} {ds:List D},fromCells vs=some ds->VRs W C ds vs
 | [],ds,h=>by simp[fromCells]at h;subst h;exact VRs.nil
 |v::vs,ds,h=>by
  unfold fromCells at h
  split at h
  ·rename_i d ds' h1 h2
   cases h
   exact VRs.cons (fromCell_vr h1) (fromCells_vr h2)
  ·cases h
theorem Ju {W:World} {C:Cx} {v:Value} {d:D} (h:fromVal v=some d):VR W C d v:=by
 unfold fromVal at h
 split at h
 ·rename_i cs
  cases hc:fromCells cs.toList with
  |none=>rw[hc]at h;cases h
  |some ds=>
   rw[hc]at h
   cases h
   have:=VR.agg_of (fromCells_vr (W:=W) (C:=C) hc)
   simpa using this
 ·exact fromCell_vr h
theorem fromCell_one {v:Value} {d:D} (h:fromCell v=some d):d≠.undef:=by
 unfold fromCell at h
 split at h
 case h_8 f a b=>split at h <;> cases h;simp
 all_goals first | (cases h;simp;done) | (cases h;done)
theorem fromVal_def {v:Value} {d:D} (h:fromVal v=some d):d≠.undef:=by
 unfold fromVal at h
 split at h
 ·rename_i cs
  cases hc:fromCells cs.toList with
  |none=>rw[hc]at h;cases h
  |some ds=>rw[hc]at h;cases h;simp
 ·exact fromCell_one h
/-! ### The store -/
def ObR (W:World) (C:Cx) (g sz tot:Nat) (T:TypeId):Ob->Prop
 | .dead=>True
 | .row s es=>s=sz/\es.length*sz<=tot/\(∀(i:Nat) (e:List D),es[i]?=some e->e.length=sz)/\∃vs:Array Value,W.heap[g]?=some (.cells vs T (0,0))/\vs.size=tot/\
   ∀(i j:Nat) (e:List D) (c:D),es[i]?=some e->e[j]?=some c->∃v,vs[i*sz+j]?=some v/\VR W C c v/\c.one=true
 | .map kt l=>∃(es:Array MapEntry) (clock:Nat) (m:List (D×D)),W.heap[g]?=some (.map es clock)/\m.Perm l/\((es.toList.map (·.born)).Nodup/\∀e∈es.toList,e.born<clock)/\m.length=es.size/\(∀p∈m,keyOk C.P kt p.1=true)/\m.Pairwise (λp q=>Yz p.1 q.1=false)/\(∀(i:Nat) (p:D×D) (e:MapEntry),m[i]?=some p->es[i]?=some e->VR W C p.1 e.key/\VR W C p.2 e.val)
def Live (C:Cx) (S:List Ob) (b:Nat):Prop:=∃k ob sz tot T,S[k]?=some ob/\ob≠.dead/\C.R k=some (b,sz,tot,T)
structure SR (W:World) (C:Cx) (S:List Ob):Prop where
 ob:∀(k:Nat) (ob:Ob),S[k]?=some ob->ob≠.dead->∃g sz tot T,C.R k=some (g,sz,tot,T)/\ObR W C g sz tot T ob/\¬C.I g/\g<W.heap.size
 fresh:∀k x,C.R k=some x->k<S.length
 inj:∀(k k':Nat) (ob ob':Ob) (x x':Nat×Nat×Nat×TypeId),S[k]?=some ob->ob≠.dead->S[k']?=some ob'->ob'≠.dead->C.R k=some x->C.R k'=some x'->x.1=x'.1->k=k'
 imm:∀g,C.I g->g<W.heap.size
structure Fr (W:World) (C:Cx) (S:List Ob) (W':World) (C':Cx) (S':List Ob):Prop where
 os:W'.os=W.os
 tape:W'.tape=W.tape
 output:W'.output=W.output
 size:W.heap.size<=W'.heap.size
 keep:∀b,b<W.heap.size->¬Live C S b->W'.heap[b]?=W.heap[b]?
 live:∀b,Live C' S' b->Live C S b∨W.heap.size<=b
 R:∀k x,C.R k=some x->C'.R k=some x
 I:∀g,C.I g->C'.I g
 P:C'.P=C.P
 newI:∀g,C'.I g->C.I g∨W.heap.size<=g
 len:S.length<=S'.length
 newR:∀k x,C'.R k=some x->C.R k=some x∨S.length<=k
theorem Fr.refl (W:World) (C:Cx) (S:List Ob):Fr W C S W C S:=⟨rfl,rfl,rfl,Uk _,λ_ _ _=>rfl,λ_ h=>.inl h,λ_ _ h=>h,λ_ h=>h,rfl,λ_ h=>.inl h,Uk _,λ_ _ h=>.inl h⟩
theorem Fr.trans {W W1 W2:World} {C C1 C2:Cx} {S S1 S2:List Ob} (h:Fr W C S W1 C1 S1) (k:Fr W1 C1 S1 W2 C2 S2):Fr W C S W2 C2 S2:=
 ⟨k.os.trans h.os,k.tape.trans h.tape,k.output.trans h.output,Vk h.size k.size,
  λb hb hn=>(k.keep b (Nat.lt_of_lt_of_le hb h.size) (λhl=>(h.live b hl).elim hn (λh'=>by omega))).trans (h.keep b hb hn),
  λb hb=>(k.live b hb).elim (h.live b) (λh'=>.inr (Vk h.size h')),
  λi x hx=>k.R i x (h.R i x hx),λg hg=>k.I g (h.I g hg),k.P.trans h.P,λg hg=>(k.newI g hg).elim (h.newI g) (λh'=>.inr (Vk h.size h')),
  Vk h.len k.len,λi x hx=>(k.newR i x hx).elim (h.newR i x) (λh'=>.inr (Vk h.len h'))⟩
theorem SR.not_live {W:World} {C:Cx} {S:List Ob} (h:SR W C S) {g:Nat} (hg:C.I g):¬Live C S g:=by
 rintro⟨k,ob,sz,tot,T,h1,h2,h3⟩
 obtain⟨g',sz',tot',T',h4,-,h5,-⟩:=h.ob k ob h1 h2
 rw[h3]at h4
 cases h4
 exact h5 hg
theorem Fr.vr {W W':World} {C C':Cx} {S S':List Ob} (h:Fr W C S W' C' S') (hs:SR W C S) {d:D} {v:Value} (hv:VR W C d v):VR W' C' d v:=
 hv.mono (λg hg=>⟨h.I g hg,h.keep g (hs.imm g hg) (hs.not_live hg)⟩) h.R
theorem SR.live_lt {W:World} {C:Cx} {S:List Ob} (h:SR W C S) {b:Nat} (hb:Live C S b):b<W.heap.size:=by
 obtain⟨k,ob,sz,tot,T,h1,h2,h3⟩:=hb
 obtain⟨g',sz',tot',T',h4,-,-,h5⟩:=h.ob k ob h1 h2
 rw[h3]at h4
 cases h4
 exact h5
structure AR (W:World) (C:Cx) (act:List D) (a:Act):Prop where
 vals:VRs W C act a.tmps.toList
 defers:a.defers=[]
theorem AR.fr {W W':World} {C C':Cx} {S S':List Ob} {act:List D} {a:Act} (h:AR W C act a) (hs:SR W C S) (hf:Fr W C S W' C' S'):AR W' C' act a:=⟨h.vals.mono λ_ _ hv=>hf.vr hs hv,h.defers⟩
def GR (W:World) (C:Cx) (G:Nat->Option (List D)):Prop:=∀g cs,G g=some cs->VR W C (.ref cs 0) (.pointer (some ⟨g,0,none⟩))
theorem GR.fr {W W':World} {C C':Cx} {S S':List Ob} {G:Nat->Option (List D)} (h:GR W C G) (hs:SR W C S) (hf:Fr W C S W' C' S'):GR W' C' G:=λg cs hg=>hf.vr hs (h g cs hg)
theorem AR.put {W:World} {C:Cx} {act:List D} {a:Act} (h:AR W C act a) (dst:Option Tmp) {d:D} {v:Value} (hv:VR W C d v):AR W C (putD act dst d) (a.put dst v):=by
 cases dst with
 |none=>exact h
 |some t=>exact⟨by simpa [putD,Act.put] using h.vals.set t hv,h.defers⟩
theorem AR.eval {E:Env} {W:World} {C:Cx} {act:List D} {a:Act} (h:AR W C act a) (hG:GR W C E.G) (x:Operand):VR W C (evD E act x) (a.eval x):=by
 cases x with
 |tmp t=>
  show VR W C ((act[t]?).getD .undef) _
  cases ht:act[t]? with
  |none=>exact .undef _
  |some d=>
   obtain⟨v,hv,hr⟩:=h.vals.get ht
   have:a.eval (.tmp t)=v:=by
    show a.tmps.getD t undef=v
    rw[Ul]at hv
    simp[Uj,hv]
   rw[this];exact hr
 |const v=>
  show VR W C ((fromVal v).getD .undef) _
  cases hd:fromVal v with
  |none=>exact .undef _
  |some d=>exact Ju hd
 |global g=>
  show VR W C (match E.G g with |some cs=>.ref cs 0 |none=>.undef) _
  cases hg:E.G g with
  |none=>exact .undef _
  |some cs=>exact hG g cs hg
 |func f=>exact .func rfl rfl (λj d v hd=>by simp at hd) (λj d v hd=>by simp at hd)
/-! ### How the store turns -/
theorem ObR.mono {W W':World} {C C':Cx} {g sz tot:Nat} {T:TypeId} {ob:Ob} (h:ObR W C g sz tot T ob) (hP:C'.P=C.P) (hb:W'.heap[g]?=W.heap[g]?) (hm:∀d v,VR W C d v->VR W' C' d v):ObR W' C' g sz tot T ob:=by
 cases ob with
 |dead=>trivial
 |row s es=>
  obtain⟨h1,h2,h3,vs,h4,h5,h6⟩:=h
  refine⟨h1,h2,h3,vs,hb.trans h4,h5,λi j e c he hc=>?_⟩
  obtain⟨v,hv,hr,ho⟩:=h6 i j e c he hc
  exact⟨v,hv,hm _ _ hr,ho⟩
 |map kt l=>
  obtain⟨es,clock,m,h1,hm1,hm2,h2,h4,h5,h3⟩:=h
  exact⟨es,clock,m,hb.trans h1,hm1,hm2,h2,by rw[hP];exact h4,h5,λi p e hp he=>⟨hm _ _ (h3 i p e hp he).1,hm _ _ (h3 i p e hp he).2⟩⟩
theorem Zv {α:Type} {l:List α} {k i:Nat} {a b:α} (h:(l.set k a)[i]?=some b):(i=k/\b=a/\k<l.length)∨(i≠k/\l[i]?=some b):=by
 rw[List.getElem?_set]at h
 split at h
 ·rename_i e
  split at h
  ·cases h;exact .inl ⟨e.symm,rfl,by assumption⟩
  ·cases h
 ·rename_i e;exact .inr ⟨λe'=>e e'.symm,h⟩
theorem Kh {α:Type} {l:List α} {i:Nat} {a b:α} (h:(l++[a])[i]?=some b):(i=l.length/\b=a)∨(i<l.length/\l[i]?=some b):=by
 rcases Nat.lt_or_ge i l.length with hi |hi
 ·rw[Ut hi]at h;exact .inr ⟨hi,h⟩
 ·rw[Vh hi]at h
  have:i-l.length=0:=by
   rcases Nat.eq_zero_or_pos (i-l.length) with e |e
   ·exact e
   ·rw[List.getElem?_eq_none (by simp;omega)]at h;cases h
  rw[this]at h
  exact .inl ⟨by omega,by simpa using h.symm⟩
def Cx.add (C:Cx) (k:Nat) (x:Nat×Nat×Nat×TypeId):Cx:=⟨C.P,λj=>if j=k then some x else C.R j,C.I⟩
def Cx.imm (C:Cx) (g:Nat):Cx:=⟨C.P,C.R,λb=>C.I b∨b=g⟩
theorem Cx.add_same (C:Cx) (k:Nat) (x:Nat×Nat×Nat×TypeId):(C.add k x).R k=some x:=by simp[Cx.add]
theorem Cx.add_old {W:World} {C:Cx} {S:List Ob} (h:SR W C S) (x:Nat×Nat×Nat×TypeId) {k:Nat} {y:Nat×Nat×Nat×TypeId} (hk:C.R k=some y):(C.add S.length x).R k=some y:=by
 have:=h.fresh k y hk
 simp[Cx.add,Nat.ne_of_lt this,hk]
theorem Cx.add_new {C:Cx} {n:Nat} {x y:Nat×Nat×Nat×TypeId} {k:Nat} (h:(C.add n x).R k=some y):C.R k=some y∨n<=k:=by
 by_cases e:k=n
 ·exact .inr (Nat.le_of_eq e.symm)
 ·exact .inl (by simpa [Cx.add,e] using h)
theorem SR.at {W:World} {C:Cx} {S:List Ob} (h:SR W C S) {k:Nat} {ob:Ob} (hk:S[k]?=some ob) (hd:ob≠.dead) {g sz tot:Nat} {T:TypeId} (hr:C.R k=some (g,sz,tot,T)):ObR W C g sz tot T ob/\¬C.I g/\g<W.heap.size:=by
 obtain⟨g',sz',tot',T',h1,h2⟩:=h.ob k ob hk hd
 rw[hr]at h1
 cases h1
 exact h2
theorem SR.put {W W':World} {C:Cx} {S:List Ob} (h:SR W C S) {k:Nat} {ob ob':Ob} {g sz tot:Nat} {T:TypeId} (hk:S[k]?=some ob) (hd:ob≠.dead) (hr:C.R k=some (g,sz,tot,T))
  (hos:W'.os=W.os) (htp:W'.tape=W.tape) (hout:W'.output=W.output) (hsz:W'.heap.size=W.heap.size) (hkeep:∀b,b≠g->W'.heap[b]?=W.heap[b]?)
  (hob:(∀d v,VR W C d v->VR W' C d v)->ObR W' C g sz tot T ob'):SR W' C (S.set k ob')/\Fr W C S W' C (S.set k ob'):=by
 have hA:=h.at hk hd hr
 have hm:∀d v,VR W C d v->VR W' C d v:=λd v hv=>hv.mono (λb hb=>⟨hb,hkeep b (λe=>hA.2.1 (e ▸ hb))⟩) (λ_ _ h=>h)
 have hlive:∀b,Live C (S.set k ob') b->Live C S b:=by
  rintro b ⟨i,o,s,t,T',h1,h2,h3⟩
  rcases Zv h1 with ⟨rfl,rfl,hl⟩ | ⟨hi,h1⟩
  ·exact⟨i,ob,s,t,T',hk,hd,h3⟩
  ·exact⟨i,o,s,t,T',h1,h2,h3⟩
 refine⟨⟨λi o hi ho=>?_,λi x hx=>by rw[Ux];exact h.fresh i x hx,λi i' o o' x x' hi ho hi' ho' hx hx' e=>?_,λb hb=>by rw[hsz];exact h.imm b hb⟩,⟨hos,htp,hout,Nat.le_of_eq hsz.symm,λb _ hn=>hkeep b (λe=>hn (e ▸ ⟨k,ob,sz,tot,T,hk,hd,hr⟩)),λb hb=>.inl (hlive b hb),λ_ _ h=>h,λ_ h=>h,rfl,λ_ h=>.inl h,by rw[Ux];exact Uk _,λ_ _ h=>.inl h⟩⟩
 ·rcases Zv hi with ⟨rfl,rfl,hl⟩ | ⟨hne,hi⟩
  ·exact⟨g,sz,tot,T,hr,hob hm,hA.2.1,by rw[hsz];exact hA.2.2⟩
  ·obtain⟨g',s',t',T',h1,h2,h3,h4⟩:=h.ob i o hi ho
   refine⟨g',s',t',T',h1,h2.mono rfl (hkeep g' λe=>hne (h.inj i k o ob _ _ hi ho hk hd h1 hr e)) hm,h3,by rw[hsz];exact h4⟩
 ·rcases Zv hi with ⟨e1,-,hl⟩ | ⟨hne,hi2⟩ <;> rcases Zv hi' with ⟨e2,-,hl'⟩ | ⟨hne',hi2'⟩
  ·rw[e1,e2]
  ·rw[e1]at hx ⊢;exact h.inj k i' ob o' x x' hk hd hi2' ho' hx hx' e
  ·rw[e2]at hx' ⊢;exact h.inj i k o ob x x' hi2 ho hk hd hx hx' e
  ·exact h.inj i i' o o' x x' hi2 ho hi2' ho' hx hx' e
theorem SR.push {W W':World} {C:Cx} {S:List Ob} (h:SR W C S) {ob':Ob} {g sz tot:Nat} {T:TypeId}
  (hos:W'.os=W.os) (htp:W'.tape=W.tape) (hout:W'.output=W.output) (hsz:W.heap.size<=W'.heap.size) (hkeep:∀b,b<W.heap.size->W'.heap[b]?=W.heap[b]?) (hg:W.heap.size<=g) (hg':g<W'.heap.size)
  (hob:(∀d v,VR W C d v->VR W' (C.add S.length (g,sz,tot,T)) d v)->ObR W' (C.add S.length (g,sz,tot,T)) g sz tot T ob'):
  SR W' (C.add S.length (g,sz,tot,T)) (S++[ob'])/\Fr W C S W' (C.add S.length (g,sz,tot,T)) (S++[ob']):=by
 have hm:∀d v,VR W C d v->VR W' (C.add S.length (g,sz,tot,T)) d v:=λd v hv=>VR.mono (C:=C) (C':=C.add S.length (g,sz,tot,T)) (λb hb=>⟨hb,hkeep b (h.imm b hb)⟩) (λk x hx=>Cx.add_old h _ hx) hv
 have hold:∀k,k<S.length->(C.add S.length (g,sz,tot,T)).R k=C.R k:=λk hk=>by simp[Cx.add,Nat.ne_of_lt hk]
 have hlive:∀b,Live (C.add S.length (g,sz,tot,T)) (S++[ob']) b->Live C S b∨W.heap.size<=b:=by
  rintro b ⟨i,o,s,t,T',h1,h2,h3⟩
  rcases Kh h1 with ⟨rfl,rfl⟩ | ⟨hi,h1⟩
  ·rw[Cx.add_same]at h3;cases h3;exact .inr hg
  ·rw[hold i hi]at h3;exact .inl ⟨i,o,s,t,T',h1,h2,h3⟩
 have hlt:∀i o x,S[i]?=some o->o≠.dead->C.R i=some x->x.1<W.heap.size:=by
  intro i o x hi ho hx
  obtain⟨g',s',t',T',h1,-,-,h4⟩:=h.ob i o hi ho
  rw[hx]at h1;cases h1;exact h4
 refine⟨⟨λi o hi ho=>?_,λi x hx=>?_,λi i' o o' x x' hi ho hi' ho' hx hx' e=>?_,λb hb=>Nat.lt_of_lt_of_le (h.imm b hb) hsz⟩,⟨hos,htp,hout,hsz,λb hb _=>hkeep b hb,hlive,λk x hx=>Cx.add_old h _ hx,λ_ h=>h,rfl,λ_ h=>.inl h,by simp,λk x hx=>Cx.add_new hx⟩⟩
 ·rcases Kh hi with ⟨rfl,rfl⟩ | ⟨hl,hi⟩
  ·exact⟨g,sz,tot,T,Cx.add_same _ _ _,hob hm,λhb=>by have:=h.imm g hb;omega,hg'⟩
  ·obtain⟨g',s',t',T',h1,h2,h3,h4⟩:=h.ob i o hi ho
   exact⟨g',s',t',T',by rw[hold i hl];exact h1,h2.mono rfl (hkeep g' h4) hm,h3,Nat.lt_of_lt_of_le h4 hsz⟩
 ·rw[Ku,List.length_singleton]
  by_cases e:i=S.length
  ·omega
  ·have:C.R i=some x:=by simpa [Cx.add,e] using hx
   have:=h.fresh i x this
   omega
 ·rcases Kh hi with ⟨e1,-⟩ | ⟨hl,hi2⟩ <;> rcases Kh hi' with ⟨e2,-⟩ | ⟨hl',hi2'⟩
  ·rw[e1,e2]
  ·rw[e1,Cx.add_same]at hx;cases hx
   rw[hold i' hl']at hx'
   have:=hlt i' o' x' hi2' ho' hx'
   dsimp only at e;omega
  ·rw[e2,Cx.add_same]at hx';cases hx'
   rw[hold i hl]at hx
   have:=hlt i o x hi2 ho hx
   dsimp only at e;omega
  ·rw[hold i hl]at hx;rw[hold i' hl']at hx'
   exact h.inj i i' o o' x x' hi2 ho hi2' ho' hx hx' e
theorem SR.pushAt {W W':World} {C:Cx} {S:List Ob} (h:SR W C S) {s:Nat} (hs:S[s]?=some .dead) (hR:C.R s=none) {ob':Ob} {g sz tot:Nat} {T:TypeId}
  (hos:W'.os=W.os) (htp:W'.tape=W.tape) (hout:W'.output=W.output) (hsz:W.heap.size<=W'.heap.size) (hkeep:∀b,b<W.heap.size->W'.heap[b]?=W.heap[b]?) (hg:W.heap.size<=g) (hg':g<W'.heap.size)
  (hob:(∀d v,VR W C d v->VR W' (C.add s (g,sz,tot,T)) d v)->ObR W' (C.add s (g,sz,tot,T)) g sz tot T ob'):
  SR W' (C.add s (g,sz,tot,T)) (S.set s ob')/\(∀d v,VR W C d v->VR W' (C.add s (g,sz,tot,T)) d v)/\(∀b,Live (C.add s (g,sz,tot,T)) (S.set s ob') b->Live C S b∨W.heap.size<=b):=by
 have hsl:s<S.length:=(Kr.1 hs).1
 have hold:∀k,k≠s->(C.add s (g,sz,tot,T)).R k=C.R k:=λk hk=>by simp[Cx.add,hk]
 have hup:∀k x,C.R k=some x->(C.add s (g,sz,tot,T)).R k=some x:=λk x hx=>by
  rw[hold k (λe=>by rw[e,hR]at hx;cases hx)];exact hx
 have hm:∀d v,VR W C d v->VR W' (C.add s (g,sz,tot,T)) d v:=λd v hv=>VR.mono (C:=C) (C':=C.add s (g,sz,tot,T)) (λb hb=>⟨hb,hkeep b (h.imm b hb)⟩) hup hv
 have hlive:∀b,Live (C.add s (g,sz,tot,T)) (S.set s ob') b->Live C S b∨W.heap.size<=b:=by
  rintro b ⟨i,o,z,t,T',h1,h2,h3⟩
  rcases Zv h1 with ⟨rfl,rfl,-⟩ | ⟨hi,h1⟩
  ·rw[Cx.add_same]at h3;cases h3;exact .inr hg
  ·rw[hold i hi]at h3;exact .inl ⟨i,o,z,t,T',h1,h2,h3⟩
 have hlt:∀i o x,S[i]?=some o->o≠.dead->C.R i=some x->x.1<W.heap.size:=by
  intro i o x hi ho hx
  obtain⟨g',s',t',T',h1,-,-,h4⟩:=h.ob i o hi ho
  rw[hx]at h1;cases h1;exact h4
 refine⟨⟨λi o hi ho=>?_,λi x hx=>?_,λi i' o o' x x' hi ho hi' ho' hx hx' e=>?_,λb hb=>Nat.lt_of_lt_of_le (h.imm b hb) hsz⟩,hm,hlive⟩
 ·rcases Zv hi with ⟨rfl,rfl,-⟩ | ⟨hl,hi⟩
  ·exact⟨g,sz,tot,T,Cx.add_same _ _ _,hob hm,λhb=>by have:=h.imm g hb;omega,hg'⟩
  ·obtain⟨g',s',t',T',h1,h2,h3,h4⟩:=h.ob i o hi ho
   exact⟨g',s',t',T',by rw[hold i hl];exact h1,h2.mono rfl (hkeep g' h4) hm,h3,Nat.lt_of_lt_of_le h4 hsz⟩
 ·rw[Ux]
  by_cases e:i=s
  ·rw[e];exact hsl
  ·exact h.fresh i x (by simpa [Cx.add,e] using hx)
 ·rcases Zv hi with ⟨e1,-,-⟩ | ⟨hl,hi2⟩ <;> rcases Zv hi' with ⟨e2,-,-⟩ | ⟨hl',hi2'⟩
  ·rw[e1,e2]
  ·rw[e1,Cx.add_same]at hx;cases hx
   rw[hold i' hl']at hx'
   have:=hlt i' o' x' hi2' ho' hx'
   dsimp only at e;omega
  ·rw[e2,Cx.add_same]at hx';cases hx'
   rw[hold i hl]at hx
   have:=hlt i o x hi2 ho hx
   dsimp only at e;omega
  ·rw[hold i hl]at hx;rw[hold i' hl']at hx'
   exact h.inj i i' o o' x x' hi2 ho hi2' ho' hx hx' e
theorem SR.move {W W':World} {C:Cx} {S:List Ob} (h:SR W C S) {k:Nat} {ob ob':Ob} {g sz tot:Nat} {T:TypeId} (hk:S[k]?=some ob) (hd:ob≠.dead) (hr:C.R k=some (g,sz,tot,T))
  (hos:W'.os=W.os) (htp:W'.tape=W.tape) (hout:W'.output=W.output) (hsz:W'.heap.size=W.heap.size) (hkeep:∀b,b≠g->W'.heap[b]?=W.heap[b]?)
  (hob:(∀d v,VR W C d v->VR W' (C.add S.length (g,sz,tot,T)) d v)->ObR W' (C.add S.length (g,sz,tot,T)) g sz tot T ob'):
  SR W' (C.add S.length (g,sz,tot,T)) (S.set k .dead++[ob'])/\Fr W C S W' (C.add S.length (g,sz,tot,T)) (S.set k .dead++[ob']):=by
 have hA:=h.at hk hd hr
 have hkl:k<S.length:=(Kr.1 hk).1
 have hm:∀d v,VR W C d v->VR W' (C.add S.length (g,sz,tot,T)) d v:=λd v hv=>VR.mono (C:=C) (C':=C.add S.length (g,sz,tot,T)) (λb hb=>⟨hb,hkeep b (λe=>hA.2.1 (e ▸ hb))⟩) (λk x hx=>Cx.add_old h _ hx) hv
 have hold:∀k,k<S.length->(C.add S.length (g,sz,tot,T)).R k=C.R k:=λk hk=>by simp[Cx.add,Nat.ne_of_lt hk]
 have look:∀ {i o},(S.set k .dead++[ob'])[i]?=some o->o≠.dead->(i=S.length/\o=ob')∨(i<S.length/\i≠k/\S[i]?=some o):=by
  intro i o hi ho
  rcases Kh hi with ⟨e1,e2⟩ | ⟨hl,hi⟩
  ·exact .inl ⟨by simpa using e1,e2⟩
  ·rcases Zv hi with ⟨rfl,rfl,-⟩ | ⟨hne,hi⟩
   ·exact absurd rfl ho
   ·exact .inr ⟨by simpa using hl,hne,hi⟩
 have hlive:∀b,Live (C.add S.length (g,sz,tot,T)) (S.set k .dead++[ob']) b->Live C S b∨W.heap.size<=b:=by
  rintro b ⟨i,o,s,t,T',h1,h2,h3⟩
  rcases look h1 h2 with ⟨rfl,rfl⟩ | ⟨hi,-,h1⟩
  ·rw[Cx.add_same]at h3;cases h3;exact .inl ⟨k,ob,_,_,_,hk,hd,hr⟩
  ·rw[hold i hi]at h3;exact .inl ⟨i,o,s,t,T',h1,h2,h3⟩
 refine⟨⟨λi o hi ho=>?_,λi x hx=>?_,λi i' o o' x x' hi ho hi' ho' hx hx' e=>?_,λb hb=>by rw[hsz];exact h.imm b hb⟩,⟨hos,htp,hout,Nat.le_of_eq hsz.symm,λb _ hn=>hkeep b (λe=>hn (e ▸ ⟨k,ob,sz,tot,T,hk,hd,hr⟩)),hlive,λk x hx=>Cx.add_old h _ hx,λ_ h=>h,rfl,λ_ h=>.inl h,by simp,λk x hx=>Cx.add_new hx⟩⟩
 ·rcases look hi ho with ⟨rfl,rfl⟩ | ⟨hl,hne,hi⟩
  ·exact⟨g,sz,tot,T,Cx.add_same _ _ _,hob hm,hA.2.1,by rw[hsz];exact hA.2.2⟩
  ·obtain⟨g',s',t',T',h1,h2,h3,h4⟩:=h.ob i o hi ho
   exact⟨g',s',t',T',by rw[hold i hl];exact h1,h2.mono rfl (hkeep g' λe=>hne (h.inj i k o ob _ _ hi ho hk hd h1 hr e)) hm,h3,by rw[hsz];exact h4⟩
 ·rw[Ku,List.length_singleton,Ux]
  by_cases e:i=S.length
  ·omega
  ·have:C.R i=some x:=by simpa [Cx.add,e] using hx
   have:=h.fresh i x this
   omega
 ·rcases look hi ho with ⟨e1,-⟩ | ⟨hl,hne,hi2⟩ <;> rcases look hi' ho' with ⟨e2,-⟩ | ⟨hl',hne',hi2'⟩
  ·rw[e1,e2]
  ·rw[e1,Cx.add_same]at hx;cases hx
   rw[hold i' hl']at hx'
   exact absurd (h.inj i' k o' ob x' _ hi2' ho' hk hd hx' hr e.symm) hne'
  ·rw[e2,Cx.add_same]at hx';cases hx'
   rw[hold i hl]at hx
   exact absurd (h.inj i k o ob x _ hi2 ho hk hd hx hr e) hne
  ·rw[hold i hl]at hx;rw[hold i' hl']at hx'
   exact h.inj i i' o o' x x' hi2 ho hi2' ho' hx hx' e
theorem SR.immNew {W:World} {C:Cx} {S:List Ob} (h:SR W C S) (o:Obj):SR (W.alloc o) (C.imm W.heap.size) S/\Fr W C S (W.alloc o) (C.imm W.heap.size) S:=by
 have hkeep:∀b,b<W.heap.size->(W.alloc o).heap[b]?=W.heap[b]? :=λb hb=>Below.heap_alloc W o b hb
 have hm:∀d v,VR W C d v->VR (W.alloc o) (C.imm W.heap.size) d v:=λd v hv=>VR.mono (C:=C) (C':=C.imm W.heap.size) (λb hb=>⟨Or.inl hb,hkeep b (h.imm b hb)⟩) (λ_ _ h=>h) hv
 refine⟨⟨λi ob hi ho=>?_,h.fresh,h.inj,λb hb=>?_⟩,⟨rfl,rfl,rfl,by simp,λb hb _=>hkeep b hb,λb hb=>.inl hb,λ_ _ h=>h,λ_ h=>Or.inl h,rfl,λg h=>h.elim .inl (λe=>.inr (Nat.le_of_eq e.symm)),Uk _,λ_ _ h=>.inl h⟩⟩
 ·obtain⟨g',s',t',T',h1,h2,h3,h4⟩:=h.ob i ob hi ho
  refine⟨g',s',t',T',h1,h2.mono rfl (hkeep g' h4) hm,λhb=>hb.elim h3 (λe=>by omega),by simp;omega⟩
 ·rcases hb with hb |rfl
  ·have:=h.imm b hb;simp;omega
  ·simp
/-! ### Types -/
section
variable {P : Program} {W : World} {C : Cx} {S : List Ob}
theorem info_of_size {t:TypeId} {n:Nat} (h:Yw P t=some n):∃i,P.info? t=some i/\i.size=n:=by
 obtain⟨i,hi,e⟩:=Ks.1 h
 exact⟨i,hi,e⟩
theorem Jg {t:TypeId} {n:Nat} (h:Yw P t=some n) (w:World):(sizeOf t).run P w=.ok n w:=by
 obtain⟨i,hi,rfl⟩:=info_of_size h
 simp[sizeOf,typeInfo,hi]
theorem run_isAgg' {t:TypeId} {g:Bool} (h:aggT P t=some g) (w:World):(isAgg t).run P w=.ok g w:=by
 unfold aggT at h
 obtain⟨d,hd,e⟩:=Ks.1 h
 subst e
 simp only[isAgg,Sem.run_bind,run_underlying hd,Result.andThen_ok]
 cases d <;> rfl
theorem run_zero {t:TypeId} {d:D} (h:Ji P t=some d):∃v,(∀w,(zeroValue t).run P w=.ok v w)/\(∃i,P.info? t=some i/\i.zero=some v)/\fromVal v=some d:=by
 unfold Ji at h
 cases hi:P.info? t with
 |none=>rw[hi]at h;cases h
 |some i=>
  rw[hi]at h
  cases hz:i.zero with
  |none=>simp[hz]at h
  |some v=>
   refine⟨v,λw=>?_,⟨i,rfl,hz⟩,by simpa [hz] using h⟩
   simp[zeroValue,typeInfo,hi,hz]
theorem run_part' {t:TypeId} {cs:List D} {vs:Array Value} {o:Nat} {d:D} (h:dPart P t cs o=some d) (hv:VRs W C cs vs.toList) (w:World):∃v,(part t vs o).run P w=.ok v w/\VR W C d v:=by
 unfold dPart at h
 split at h
 ·rename_i n g h1 h2
  cases g with
  |true=>
   simp only[takeC]at h
   split at h
   ·cases h
    refine⟨.agg (vs.extract o (o+n)),?_,?_⟩
    ·simp only[part,Sem.run_bind,run_isAgg' h2,Result.andThen_ok,if_true,Jg h1,Sem.run_pure]
    ·have:=(hv.drop o).take n
     have e:=VR.agg_of this
     have:vs.extract o (o+n)=((vs.toList.drop o).take n).toArray:=by
      apply Array.ext'
      simp[Array.toList_extract,List.extract_eq_take_drop]
     rw[this];exact e
   ·cases h
  |false=>
   simp only[takeC]at h
   obtain⟨v,hv',hr⟩:=hv.get h
   rw[Ul]at hv'
   refine⟨v,?_,hr⟩
   simp only[part,Sem.run_bind,run_isAgg' h2,Result.andThen_ok,Ui,if_false,hv',Sem.run_pure]
 ·cases h
theorem run_loadVar' {t:TypeId} {cs:List D} {o:Nat} {d:D} (h:dPart P t cs o=some d) {g b:Nat} (hc:∀j c,cs[j]?=some c->∃u,W.cell? ⟨g,b+j,none⟩=some u/\VR W C c u):∃v,(loadVar t ⟨g,b+o,none⟩).run P W=.ok v W/\VR W C d v:=by
 unfold dPart at h
 split at h
 ·rename_i n ga h1 h2
  cases ga with
  |true=>
   simp only[takeC]at h
   split at h
   ·rename_i hle
    cases h
    have hx:∀j,j<n->∃u,W.cell? ⟨g,b+(o+j),none⟩=some u/\∀c,cs[o+j]?=some c->VR W C c u:=by
     intro j hj
     obtain⟨u,hu,hr⟩:=hc (o+j) _ (Uh (by omega))
     refine⟨u,hu,λc hc'=>?_⟩
     rw[Uh (by omega)]at hc'
     cases hc';exact hr
    have hf:=run_loadCells (P:=P) W ⟨g,b+o,none⟩ n (λj=>(W.cell? ⟨g,b+(o+j),none⟩).getD undef) (λj hj=>by
     obtain⟨u,hu,-⟩:=hx j hj
     have:((⟨g,b+o,none⟩:Addr).add j)=⟨g,b+(o+j),none⟩:=by unfold Addr.add;split <;> simp_all[Nat.add_assoc]
     rw[this,hu];rfl)
    refine⟨.agg ((List.range n).map λj=>(W.cell? ⟨g,b+(o+j),none⟩).getD undef).toArray,?_,VR.agg_of ⟨by simp;omega,λj c v hj hv=>?_⟩⟩
    ·simp only[loadVar,Sem.run_bind,run_isAgg' h2,Result.andThen_ok,if_true,Jg h1,hf,Sem.run_pure]
    ·rw[List.getElem?_take]at hj
     split at hj
     ·rename_i hjn
      rw[List.getElem?_drop]at hj
      obtain⟨u,hu,hr⟩:=hx j hjn
      have:=hr c hj
      rw[Vd,List.getElem?_range hjn]at hv
      simp only[Vm,Uw]at hv
      rw[<-hv,hu];exact this
     ·cases hj
   ·cases h
  |false=>
   simp only[takeC]at h
   obtain⟨u,hu,hr⟩:=hc o d h
   refine⟨u,?_,hr⟩
   have e:(⟨g,b+o,none⟩:Addr)=⟨g,b+o,none⟩:=rfl
   simp only[loadVar,Sem.run_bind,run_isAgg' h2,Result.andThen_ok,Ui,if_false,load,Sem.run,hu]
 ·cases h
theorem behind_spec (hs:SR W C S) {x:D} {v:Value} (hx:VR W C x v) {cs:List D} {o:Nat} (h:behind S x=some (cs,o)):∃g b,v=.pointer (some ⟨g,b+o,none⟩)/\∀j c,cs[j]?=some c->∃u,W.cell? ⟨g,b+j,none⟩=some u/\VR W C c u:=by
 cases hx <;> try (simp[behind]at h;done)
 case ref cs' o' g b vs hg hc hv=>
  simp only[behind,Uw,Prod.mk.injEq]at h
  obtain⟨rfl,rfl⟩:=h
  exact⟨g,b,rfl,λj c hj=>⟨vs j,hc j (Kr.1 hj).1,hv j c hj⟩⟩
 case loc k i o' g sz tot T hr=>
  simp only[behind]at h
  split at h
  ·rename_i s es hk
   split at h
   ·rename_i cs' hi
    simp only[Uw,Prod.mk.injEq]at h
    obtain⟨rfl,rfl⟩:=h
    obtain⟨⟨rfl,h2,h3,vs,h4,h5,h6⟩,-,-⟩:=hs.at hk (by simp) hr
    refine⟨g,i*s,rfl,λj c hj=>?_⟩
    obtain⟨u,hu,hr',-⟩:=h6 i j _ c hi hj
    exact⟨u,by rw[cell_of_row W g (i*s+j) vs T (0,0) h4];exact hu,hr'⟩
   ·cases h
  ·cases h
theorem run_dLoad (hs:SR W C S) {t:TypeId} {x d:D} {v:Value} (hx:VR W C x v) (h:dLoad P S t x=some d):∃u,(Instr.loadAt t v).run P W=.ok u W/\VR W C d u:=by
 unfold dLoad at h
 split at h
 ·rename_i cs o hb
  obtain⟨g,b,rfl,hc⟩:=behind_spec hs hx hb
  obtain⟨u,hu,hr⟩:=run_loadVar' h hc
  exact⟨u,by simp only[Instr.loadAt,Instr.sureAddr,Sem.run_bind,Sem.run_pure,Result.andThen_ok,hu],hr⟩
 ·cases h
end
theorem splice_get {α:Type} {L vs:List α} {a:Nat} (h:a+vs.length<=L.length) (p:Nat):(L.take a++vs++L.drop (a+vs.length))[p]?=if p<a then L[p]? else if p<a+vs.length then vs[p-a]? else L[p]? :=by
 by_cases h1:p<a
 ·rw[if_pos h1,Vg,Ut (by simp;omega),List.getElem?_take,if_pos h1]
 ·rw[if_neg h1,Vg,Vh (by simp;omega)]
  have hl:(L.take a).length=a:=by simp;omega
  rw[hl]
  by_cases h2:p<a+vs.length
  ·rw[if_pos h2,Ut (by omega)]
  ·rw[if_neg h2,Vh (by omega),List.getElem?_drop]
   congr 1;omega
theorem setFrom_len:∀ {vs cs:List D} {o:Nat},(setFrom cs o vs).length=cs.length
 | [],_,_=>rfl
 |v::vs,cs,o=>by rw[setFrom,setFrom_len];simp
theorem setFrom_get:∀ {vs cs:List D} {o:Nat},o+vs.length<=cs.length->∀p,(setFrom cs o vs)[p]?=if p<o then cs[p]? else if p<o+vs.length then vs[p-o]? else cs[p]?
 | [],cs,o,h,p=>by
  rw[setFrom]
  split
  ·rfl
  ·rw[if_neg (by simp;omega)]
 |v::vs,cs,o,h,p=>by
  rw[setFrom,setFrom_get (by simp at h ⊢;omega)]
  simp only[Uu]at h ⊢
  by_cases h1:p<o
  ·rw[if_pos (by omega),if_pos h1,Kt (by omega)]
  ·rw[if_neg h1]
   by_cases h2:p=o
   ·subst h2
    rw[if_pos (by omega),if_pos (by omega),Uf (by omega)]
    simp
   ·rw[if_neg (by omega)]
    by_cases h3:p<o+(vs.length+1)
    ·rw[if_pos (by omega),if_pos h3,show p-o=(p-(o+1))+1 by omega,Ky]
    ·rw[if_neg (by omega),if_neg h3,Kt (by omega)]
theorem setRow_size (w:World) (g:Nat) (cs:Array Value):(w.setRow g cs).heap.size=w.heap.size:=by simp[World.setRow]
theorem all_one {ds:List D} (h:ds.all D.one=true):∀d∈ds,d.one=true:=by simpa [List.all_eq_true] using h
section
variable {P : Program} {W : World} {C : Cx} {S : List Ob}
theorem VRs.ones {ds:List D} {vs:List Value} (h:VRs W C ds vs) (h1:ds.all D.one=true):∀v∈vs,v.oneCell'=true:=by
 intro v hv
 obtain⟨j,hj⟩:=Vv.1 hv
 have hl:j<ds.length:=by rw[h.1];exact (Kr.1 hj).1
 exact (h.2 j _ v (Uh hl) hj).one (all_one h1 _ (List.getElem_mem hl))
theorem idx_split {n sz i i' j j':Nat} (hj:j<sz) (hj':j'<sz) (hn:n=sz) (h:i*n+j=i'*n+j'):i=i'/\j=j':=by
 subst hn
 have h1:(i*n+j) / n=i:=by rw[Nat.mul_comm,Nat.mul_add_div (by omega),Nat.div_eq_of_lt hj];omega
 have h2:(i'*n+j') / n=i':=by rw[Nat.mul_comm,Nat.mul_add_div (by omega),Nat.div_eq_of_lt hj'];omega
 have:i=i':=by rw[<-h1,<-h2,h]
 subst this
 exact⟨rfl,by omega⟩
theorem Jt {i n sz j:Nat} (hi:i<n) (hj:j<sz):i*sz+j<n*sz:=by
 have:(i+1)*sz<=n*sz:=Va _ hi
 rw[Nat.succ_mul]at this;omega
theorem run_dStore (hs:SR W C S) {t:TypeId} {x v:D} {vx vv:Value} {S':List Ob} (hx:VR W C x vx) (hv:VR W C v vv) (h:dStore P S t x v=some S'):∃W',(Instr.storeAt t vx vv).run P W=.ok () W'/\SR W' C S'/\Fr W C S W' C S':=by
 cases hx <;> try (simp[dStore]at h;done)
 case loc k i o g sz tot T hr=>
  simp only[dStore]at h
  split at h
  ·rename_i s es hk
   split at h
   ·rename_i cs hi
    split at h
    ·rename_i hcond
     cases h
     obtain⟨c1,c2,c3⟩:=hcond
     obtain⟨⟨rfl,h2,h3,vs,h4,h5,h6⟩,hnI,hlt⟩:=hs.at hk (by simp) hr
     have hne:v≠.undef:=by rintro rfl;simp[D.cells,D.one]at c2
     have hcl:=hv.cells hne
     have hlen:cs.length=s:=h3 i cs hi
     have hil:i<es.length:=(Kr.1 hi).1
     have hfit:i*s+o+vv.cells.toList.length<=vs.size:=by
      rw[<-hcl.1,h5]
      have:(i+1)*s<=es.length*s:=Va _ hil
      rw[Nat.succ_mul]at this;omega
     have hst:=run_storeCells_at P g (i*s+o) T vv.cells.toList 0 vs W h4 (by simpa using hfit) (hcl.ones c2)
     simp only[Nat.add_zero]at hst
     have hsz:vv.cells.size=v.cells.length:=by rw[hcl.1];simp
     have hput:=hs.put (ob':=.row s (es.set i (setFrom cs o v.cells))) (W':=W.setRow g (vs.toList.take (i*s+o)++vv.cells.toList++vs.toList.drop (i*s+o+vv.cells.toList.length)).toArray) hk (by simp) hr rfl rfl rfl (setRow_size _ _ _) (λb hb=>setRow_other W g b _ hb) (λhm=>by
      refine⟨rfl,by simpa using h2,λi' e he=>?_,_,setRow_heap W g vs _ T _ h4,?_,λi' j e c he hc=>?_⟩
      ·rcases Zv he with ⟨rfl,rfl,-⟩ | ⟨-,he⟩
       ·rw[setFrom_len];exact hlen
       ·exact h3 i' e he
      ·simp only[List.size_toArray,Ku,Ve,Vf,Array.length_toList]
       simp only[Array.length_toList]at hfit
       omega
      ·suffices hh:∃v',(vs.toList.take (i*s+o)++vv.cells.toList++vs.toList.drop (i*s+o+vv.cells.toList.length))[i'*s+j]?=some v'/\VR W C c v'/\c.one=true by
        obtain⟨v',q1,q2,q3⟩:=hh
        exact⟨v',by simpa only[Ub] using q1,hm _ _ q2,q3⟩
       rw[splice_get (by simpa using hfit)]
       rw[<-hcl.1]
       rcases Zv he with ⟨rfl,rfl,-⟩ | ⟨hne',he⟩
       ·rw[setFrom_get (by omega)]at hc
        by_cases q1:j<o
        ·rw[if_pos q1]at hc
         rw[if_pos (by omega)]
         obtain⟨u,hu,hr',ho⟩:=h6 i' j cs c hi hc
         exact⟨u,by simpa using hu,hr',ho⟩
        ·rw[if_neg q1]at hc
         rw[if_neg (by omega)]
         by_cases q2:j<o+v.cells.length
         ·rw[if_pos q2]at hc
          rw[if_pos (by omega),show i'*s+j-(i'*s+o)=j-o by omega]
          obtain⟨u,hu,hr'⟩:=hcl.get hc
          exact⟨u,hu,hr',all_one c2 c (Kx hc)⟩
         ·rw[if_neg q2]at hc
          rw[if_neg (by omega)]
          obtain⟨u,hu,hr',ho⟩:=h6 i' j cs c hi hc
          exact⟨u,by simpa using hu,hr',ho⟩
       ·obtain⟨u,hu,hr',ho⟩:=h6 i' j e c he hc
        have hj:j<s:=by rw[<-h3 i' e he];exact (Kr.1 hc).1
        refine⟨u,?_,hr',ho⟩
        by_cases q1:i'*s+j<i*s+o
        ·rw[if_pos q1];simpa using hu
        ·rw[if_neg q1]
         by_cases q2:i'*s+j<i*s+o+v.cells.length
         ·exfalso
          have:=idx_split (n:=s) (sz:=s) (i:=i') (i':=i) (j:=j) (j':=i'*s+j-i*s) hj (by omega) rfl (by omega)
          exact hne' this.1
         ·rw[if_neg q2];simpa using hu)
     refine⟨_,?_,hput.1,hput.2⟩
     simp only[Instr.storeAt,Instr.sureAddr,Sem.run_bind,Sem.run_pure,Result.andThen_ok,storeVar,Jg c1,hsz,ne_eq,not_true,if_false,hst]
    ·cases h
   ·cases h
  ·cases h
theorem fieldN_spec {s:TypeId} {f ft off:Nat} (h:Yh P s f=some (ft,off)):∃fs fd,P.underlying s=some (.struct fs)/\fs[f]?=some fd/\fd.type=ft/\fd.offset=off:=by
 unfold Yh at h
 split at h
 ·obtain⟨fd,h1,h2⟩:=Ks.1 h
  cases h2
  exact⟨_,fd,by assumption,h1,rfl,rfl⟩
 ·cases h
theorem Jm (g b n:Nat):(⟨g,b,none⟩:Addr).add n=⟨g,b+n,none⟩:=by unfold Addr.add;split <;> simp_all
theorem run_dFieldAddr {s:TypeId} {x d:D} {f:Nat} {v:Value} (hx:VR W C x v) (h:dFieldAddr P s x f=some d):∃u,(Instr.fieldAt s v f).run P W=.ok u W/\VR W C d u:=by
 unfold dFieldAddr at h
 split at h
 ·rename_i ft off hf
  obtain⟨fs,fd,h1,h2,rfl,rfl⟩:=fieldN_spec hf
  split at h
  ·rename_i n hn
   have key:∀(g b:Nat),(Instr.fieldAt s (.pointer (some ⟨g,b,none⟩)) f).run P W=.ok (.pointer (some ⟨g,b+fd.offset,none⟩)) W:=by
    intro g b
    simp only[Instr.fieldAt,Sem.run_bind,run_underlying h1,Result.andThen_ok,h2,Instr.sureAddr,Sem.run_pure,fieldPlace,Jg hn,Nat.add_one_ne_zero,if_false,Jm]
   cases hx <;> simp only[Uw,reduceCtorEq]at h
   case ref cs o g b vs hg hc hv=>subst h;exact⟨_,key _ _,by rw[Nat.add_assoc];exact .ref vs hg hc hv⟩
   case loc k i o g sz tot T hr=>subst h;exact⟨_,key _ _,by rw[Nat.add_assoc];exact .loc hr⟩
  ·cases h
 ·cases h
theorem run_dField {t:TypeId} {x d:D} {f:Nat} {v:Value} (hx:VR W C x v) (h:dField P t x f=some d):∃u,(Instr.field t v f).run P W=.ok u W/\VR W C d u:=by
 unfold dField at h
 split at h
 ·rename_i ft off cs hf
  obtain⟨fs,fd,h1,h2,rfl,rfl⟩:=fieldN_spec hf
  obtain⟨vs,rfl,hvs⟩:=hx.of_agg
  obtain⟨u,hu,hr⟩:=run_part' h hvs W
  refine⟨u,?_,hr⟩
  simp only[Instr.field,Sem.run_bind,run_underlying h1,Result.andThen_ok,h2,asAgg,Sem.run_pure,hu]
 ·cases h
theorem run_dIndexAddr (hs:SR W C S) {t:TypeId} {x d:D} {k:IntKind} {n:Int} {v:Value} (hx:VR W C x v) (h:dIndexAddr P S t x n=some d):∃u,(Instr.indexAt t v (.int k n)).run P W=.ok u W/\VR W C d u:=by
 unfold dIndexAddr at h
 split at h
 ·rename_i e sz es x' hu
  split at h
  ·rename_i hc
   obtain⟨e',he,rfl⟩:=Ks.1 h
   have hl:n.toNat<es.length:=(Kr.1 he).1
   have hn:n<es.length:=by omega
   cases hx with
   |sl vs hp hg hcap hxx hss hcc ho hv=>
    rename_i g b cap
    refine⟨.pointer (some ⟨g,b+n.toNat*sz,none⟩),?_,?_⟩
    ·simp[Instr.indexAt,asIntOf,run_underlying hu,hc.1,hn,Jg hc.2,Jm]
    ·have hel:=hss _ _ he
     have:=VR.ref (W:=W) (C:=C) (cs:=e') (o:=0) (g:=g) (b:=b+n.toNat*sz) (λj=>vs n.toNat j) hg (λj hj=>by rw[Nat.add_assoc];exact hcc _ _ hl (by omega)) (λj c hj=>hv _ _ _ _ he hj)
     simpa using this
   |sl0=>simp at hl
  ·cases h
 ·rename_i e kk i len x' hu
  split at h
  ·rename_i hc
   split at h
   ·rename_i sz es hk
    split at h
    ·rename_i hsz
     cases h
     cases hx with
     |os hr hl hxx hx' hx''=>
      rename_i g sz' tot cap T
      obtain⟨⟨rfl,-⟩,-⟩:=hs.at hk (by simp) hr
      refine⟨.pointer (some ⟨g,i*sz+n.toNat*sz,none⟩),?_,?_⟩
      ·simp[Instr.indexAt,asIntOf,run_underlying hu,hc.1,hc.2,Jg hsz,Jm]
      ·have:=VR.loc (W:=W) (C:=C) (i:=i+n.toNat) (o:=0) hr
       simpa [Nat.add_mul] using this
    ·cases h
   ·cases h
  ·cases h
 ·rename_i len e cs o hu
  split at h
  ·rename_i hc
   obtain⟨z,hz,rfl⟩:=Ks.1 h
   cases hx with
   |ref vs hg hcc hv=>
    rename_i g b
    refine⟨.pointer (some ⟨g,b+(o+n.toNat*z),none⟩),?_,.ref vs hg hcc hv⟩
    simp[Instr.indexAt,asIntOf,run_underlying hu,hc.1,hc.2,Jg hz,Instr.sureAddr,Jm,Nat.add_assoc]
  ·cases h
 ·rename_i len e kk i o hu
  split at h
  ·rename_i hc
   obtain⟨z,hz,rfl⟩:=Ks.1 h
   cases hx with
   |loc hr=>
    rename_i g sz tot T
    refine⟨.pointer (some ⟨g,i*sz+(o+n.toNat*z),none⟩),?_,.loc hr⟩
    simp[Instr.indexAt,asIntOf,run_underlying hu,hc.1,hc.2,Jg hz,Instr.sureAddr,Jm,Nat.add_assoc]
  ·cases h
 ·cases h
theorem run_dIndex {t:TypeId} {x d:D} {k:IntKind} {n:Int} {v:Value} (hx:VR W C x v) (h:dIndex P t x n=some d):∃u,(Instr.index t v (.int k n)).run P W=.ok u W/\VR W C d u:=by
 unfold dIndex at h
 split at h
 ·rename_i len e cs hu
  split at h
  ·rename_i hc
   split at h
   ·rename_i z hz
    obtain⟨vs,rfl,hvs⟩:=hx.of_agg
    obtain⟨u,hu',hr⟩:=run_part' h hvs W
    exact⟨u,by simp[Instr.index,asIntOf,run_underlying hu,hc.1,hc.2,Jg hz,hu'],hr⟩
   ·cases h
  ·cases h
 ·rename_i s hu
  split at h
  ·rename_i hc
   obtain⟨b,hb,rfl⟩:=Ks.1 h
   cases hx with
   |str s=>
    exact⟨_,by simp[Instr.index,asIntOf,run_underlying hu,hc,hb],.int _ _⟩
  ·cases h
 ·cases h
end
end Go.Proofs.YtaklebjoenophaaGreat.Dm
