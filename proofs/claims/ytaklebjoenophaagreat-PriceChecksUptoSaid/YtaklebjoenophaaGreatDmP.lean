/-
  One operation of the machine, whichever it is but a call, is what the model does.
  The machine's calls: what a callee hands back, frozen or not, is what the model's callee hands back.
-/
import Derived.Test.YtaklebjoenophaaGreatDmM
set_option linter.unusedSimpArgs false
set_option linter.unusedVariables false
namespace Go.Proofs.YtaklebjoenophaaGreat.Dm
open Go Go.RowKit
section
variable {P : Program} {W : World} {C : Cx} {S : List Ob}
theorem run_dLen (hs:SR W C S) {ts:Array TypeId} {ty t:TypeId} {args:Array Value} {v:Value} {x d:D} (hts:ts[0]?=some t) (hargs:args[0]?=some v) (hx:VR W C x v) (h:dLen P S t x=some d):
  ∃u,(Builtin.len_ ts ty args).run P W=.ok u W/\VR W C d u:=by
 unfold dLen at h
 split at h
 case h_1 s hu=>cases h;cases hx;exact⟨.int .i64 s.size,by simp[Builtin.len_,hts,hargs,run_underlying hu,goInt],.int _ _⟩
 case h_2 e hu=>cases h;cases hx;exact⟨.int .i64 0,by simp[Builtin.len_,hts,hargs,run_underlying hu,goInt],.int _ _⟩
 case h_3 e z es x' hu=>
  cases h
  cases hx with
  |sl=>exact⟨.int .i64 es.length,by simp[Builtin.len_,hts,hargs,run_underlying hu,goInt],.int _ _⟩
  |sl0=>exact⟨.int .i64 0,by simp[Builtin.len_,hts,hargs,run_underlying hu,goInt],.int _ _⟩
 case h_4 e k i len x' hu=>cases h;cases hx;exact⟨.int .i64 len,by simp[Builtin.len_,hts,hargs,run_underlying hu,goInt],.int _ _⟩
 case h_5 e k i len cap hu=>cases h;cases hx;exact⟨.int .i64 len,by simp[Builtin.len_,hts,hargs,run_underlying hu,goInt],.int _ _⟩
 case h_6 k e hu=>cases h;cases hx;exact⟨.int .i64 0,by simp[Builtin.len_,hts,hargs,run_underlying hu,goInt],.int _ _⟩
 case h_7 kt' e k hu=>
  split at h
  ·rename_i kt l hk
   cases h
   cases hx with
   |map hr=>
    obtain⟨⟨es,clock,m,hb,hmp,-,hl,-⟩,-,-⟩:=hs.at hk (by simp) hr
    exact⟨.int .i64 es.size,by simp[Builtin.len_,hts,hargs,run_underlying hu,MapKept.run_getObj_map hb,goInt],by rw[<-hmp.length_eq,hl];exact .int _ _⟩
  ·cases h
 case h_8 n e hu=>
  cases h
  exact⟨.int .i64 n,by simp[Builtin.len_,hts,hargs,run_underlying hu,goInt],.int _ _⟩
 case h_9=>cases h
theorem run_dCap {ts:Array TypeId} {ty t:TypeId} {args:Array Value} {v:Value} {x d:D} (hts:ts[0]?=some t) (hargs:args[0]?=some v) (hx:VR W C x v) (h:dCap P t x=some d):
  ∃u,(Builtin.cap_ ts ty args).run P W=.ok u W/\VR W C d u:=by
 unfold dCap at h
 split at h
 case h_1 e hu=>cases h;cases hx;exact⟨.int .i64 0,by simp[Builtin.cap_,hts,hargs,run_underlying hu,goInt],.int _ _⟩
 case h_2 e k i len cap hu=>cases h;cases hx;exact⟨.int .i64 cap,by simp[Builtin.cap_,hts,hargs,run_underlying hu,goInt],.int _ _⟩
 case h_3=>cases h
theorem run_dMin2 {a b d:D} {u v:Value} {mx:Bool} (h:dMin2 mx a b=some d) (ha:VR W C a u) (hb:VR W C b v):∃r,(if mx then Builtin.max2 u v else Builtin.min2 u v).run P W=.ok r W/\VR W C d r:=by
 unfold dMin2 at h
 split at h
 ·cases h;cases ha;cases hb
  cases mx
  ·refine⟨_,?_,.int _ _⟩;simp[Builtin.min2]
  ·refine⟨_,?_,.int _ _⟩;simp[Builtin.max2]
 ·cases h
theorem run_dMins {mx:Bool}:∀ {l:List D} {a d:D} {u:Value} {vs:List Value},dMins mx a l=some d->VR W C a u->VRs W C l vs->∃r,(vs.foldlM (λx y=>if mx then Builtin.max2 x y else Builtin.min2 x y) u).run P W=.ok r W/\VR W C d r
 | [],a,d,u,vs,h,ha,hv=>by
  simp[dMins]at h;subst h
  have:vs=[]:=Ug (by simpa using hv.1.symm)
  subst this
  exact⟨u,by simp,ha⟩
 |b::l,a,d,u,[],h,ha,hv=>by have:=hv.1;simp at this
 |b::l,a,d,u,v::vs,h,ha,hv=>by
  unfold dMins at h
  split at h
  ·rename_i c hc
   obtain⟨r,hr,hrv⟩:=run_dMin2 (P:=P) hc ha hv.head
   obtain⟨r',hr',hrv'⟩:=run_dMins h hrv hv.tail
   exact⟨r',by rw[List.foldlM_cons];simp only[Sem.run_bind,hr,Result.andThen_ok,hr'],hrv'⟩
  ·cases h
theorem run_dCopy (hs:SR W C S) {ts:Array TypeId} {t ty:TypeId} (hts:ts[0]?=some t) {dd s d:D} {vd vs:Value} {S':List Ob} (hd:VR W C dd vd) (hv:VR W C s vs) (h:dCopy P S t dd s=some (d,S')):
  ∃r W',(Builtin.copy_ ts ty #[vd,vs]).run P W=.ok r W'/\VR W' C d r/\SR W' C S'/\Fr W C S W' C S':=by
 unfold dCopy at h
 split at h
 ·rename_i e he
  have hu:=elem_underlying he
  split at h
  ·rename_i sz hsz
   split at h
   ·rename_i src hsrc
    obtain⟨a,ca,vn,rfl,hca,hfn,han⟩:=src_spec hs hv hsrc
    split at h
    ·cases h
     cases hd
     have hf:(Builtin.firstCells sz 0 (.slice a src.length ca)).run P W=.ok #[] W:=by cases a <;> simp[Builtin.firstCells,loadCells,loadCellsFrom]
     exact⟨.int .i64 0,W,by simp[Builtin.copy_,hts,run_underlying hu,Builtin.lenOf,Jg hsz,hf,goInt],.int _ _,hs,Fr.refl _ _ _⟩
    ·rename_i k i len x
     split at h
     ·rename_i z es hk
      dsimp only at h
      split at h
      ·rename_i hcond
       obtain⟨rfl,hil⟩:=hcond
       cases h
       obtain⟨g,sz',tot,cap,T,rfl,hr,hl,hxx,hx',hx''⟩:=hd.of_os
       obtain⟨⟨rfl,h2,h3,cur,h4,h5,h6⟩,hnI,hlt⟩:=hs.at hk (by simp) hr
       have hFn:=(hfn.dropTake 0 (min src.length len) (by omega))
       simp only[Nat.zero_mul,List.drop_zero]at hFn
       have hnl:(src.take (min src.length len)).length=min src.length len:=by simp
       -- what is loaded
       have hload:(Builtin.firstCells z (Nat.min src.length len) (.slice a src.length ca)).run P W=.ok (vn.take (min src.length len*z)).toArray W:=by
        have hlen:(vn.take (min src.length len*z)).length=min src.length len*z:=by rw[hFn.len,hnl]
        cases ha:a with
        |none=>
         have h0:src.length=0:=by
          rcases Nat.eq_zero_or_pos src.length with h0 |h0
          ·exact h0
          ·obtain⟨g',o',e',-⟩:=han h0
           rw[ha]at e';cases e'
         have:vn.take (min src.length len*z)=[]:=Ug (by rw[hlen,h0];simp)
         rw[this]
         simp[Builtin.firstCells]
        |some a'=>
         have:=run_loadCells_list (P:=P) W a' (vn.take (min src.length len*z)) (λj u hu=>by
          rw[List.getElem?_take]at hu
          split at hu
          ·rename_i hj
           have hpos:0<src.length:=by
            rcases Nat.eq_zero_or_pos src.length with h0 |h0
            ·rw[h0]at hj;simp at hj
            ·exact h0
           obtain⟨g',o',e',hc'⟩:=han hpos
           rw[ha]at e';cases e'
           rw[Jm];exact hc' j u hu
          ·cases hu)
         rw[hlen]at this
         exact this
       have hfit:i*z+(vn.take (min src.length len*z)).length<=cur.size:=by
        rw[hFn.len,hnl,h5,<-Nat.add_mul]
        exact Vk (Va _ (by omega)) h2
       have hone:∀u∈vn.take (min src.length len*z),u.oneCell'=true:=by
        rcases Nat.eq_zero_or_pos z with hz |hz
        ·subst hz;intro u hu;simp at hu
        ·exact hFn.ones hz
       have hst:=run_storeCells_at P g (i*z) T (vn.take (min src.length len*z)) 0 cur W h4 (by simpa using hfit) hone
       simp only[Nat.add_zero]at hst
       have hput:=hs.put (ob':=.row z (es.take i++src.take (min src.length len)++es.drop (i+min src.length len))) (W':=W.setRow g (cur.toList.take (i*z)++vn.take (min src.length len*z)++cur.toList.drop (i*z+(vn.take (min src.length len*z)).length)).toArray) hk (by simp) hr rfl rfl rfl (setRow_size _ _ _) (λb hb=>setRow_other W g b _ hb) (λhm=>by
        have hes:∀p (e':List D),(es.take i++src.take (min src.length len)++es.drop (i+min src.length len))[p]?=some e'->if p<i then es[p]?=some e' else if p<i+min src.length len then (src.take (min src.length len))[p-i]?=some e' else es[p]?=some e':=by
         intro p e' he'
         have:=splice_get (L:=es) (vs:=src.take (min src.length len)) (a:=i) (by rw[hnl];omega) p
         rw[hnl]at this
         rw[this]at he'
         by_cases q1:p<i
         ·rw[if_pos q1]at he' ⊢;exact he'
         ·rw[if_neg q1]at he' ⊢
          by_cases q2:p<i+min src.length len
          ·rw[if_pos q2]at he' ⊢;exact he'
          ·rw[if_neg q2]at he' ⊢;exact he'
        have hlenE:(es.take i++src.take (min src.length len)++es.drop (i+min src.length len)).length=es.length:=by simp;omega
        refine⟨rfl,by rw[hlenE];exact h2,λp e' he'=>?_,_,setRow_heap W g cur _ T _ h4,?_,λp j e' c he' hc'=>?_⟩
        ·have:=hes p e' he'
         split at this
         ·exact h3 _ _ this
         ·split at this
          ·exact hFn.el _ _ this
          ·exact h3 _ _ this
        ·simp only[List.size_toArray,Ku,Vf,Array.length_toList]
         rw[Ve (l:=cur.toList)]
         simp only[Array.length_toList]
         omega
        ·suffices hh:∃v',(cur.toList.take (i*z)++vn.take (min src.length len*z)++cur.toList.drop (i*z+(vn.take (min src.length len*z)).length))[p*z+j]?=some v'/\VR W C c v'/\c.one=true by
          obtain⟨v',q1,q2,q3⟩:=hh
          exact⟨v',by simpa only[Ub] using q1,hm _ _ q2,q3⟩
         rw[splice_get (by simpa using hfit),hFn.len,hnl,<-Nat.add_mul]
         have hE:=hes p e' he'
         split at hE
         ·rename_i q
          obtain⟨u,hu',hr',ho'⟩:=h6 _ _ _ _ hE hc'
          have hj:j<z:=by rw[<-h3 _ _ hE];exact (Kr.1 hc').1
          exact⟨u,by rw[if_pos (Jt q hj)];simpa using hu',hr',ho'⟩
         ·rename_i q
          split at hE
          ·rename_i q2
           obtain⟨u,hu',hr'⟩:=hFn.val _ _ _ _ hE hc'
           have hj:j<z:=by rw[<-hFn.el _ _ hE];exact (Kr.1 hc').1
           have e1:p*z=i*z+(p-i)*z:=by rw[<-Nat.add_mul];congr 1;omega
           refine⟨u,?_,hr',hFn.one _ _ _ _ hE hc'⟩
           rw[if_neg (by rw[e1];omega),if_pos (Jt q2 hj),e1]
           rw[show i*z+(p-i)*z+j-i*z=(p-i)*z+j by omega]
           exact hu'
          ·rename_i q2
           obtain⟨u,hu',hr',ho'⟩:=h6 _ _ _ _ hE hc'
           have e1:(i+min src.length len)*z<=p*z:=Va _ (by omega)
           have e2:i*z<=(i+min src.length len)*z:=Va _ (by omega)
           exact⟨u,by rw[if_neg (by omega),if_neg (by omega)];simpa using hu',hr',ho'⟩)
       refine⟨goInt (Nat.min src.length len),_,?_,.int _ _,hput.1,hput.2⟩
       simp only[Builtin.copy_,hts,Sem.run_bind,run_underlying hu,Result.andThen_ok,Builtin.lenOf,Sem.run_pure,Jg hsz,hload,hst,Ub,Uc,Ky]
      ·cases h
     ·cases h
    ·cases h
   ·cases h
  ·cases h
 ·cases h
end
section
variable {W : World} {C : Cx} {S : List Ob}
theorem pureL_get {cs:List D} (h:Yp cs=true):∀(j:Nat) (c:D),cs[j]?=some c->c.pure=true:=by
 induction cs with
 |nil=>intro j c hc;simp at hc
 |cons d cs ih=>
  simp only[Yp,Kv]at h
  intro j c hc
  cases j with
  |zero=>have:d=c:=by simpa using hc
         subst this;exact h.1
  |succ j=>exact ih h.2 j c (by simpa using hc)
theorem pureLL_get {es:List (List D)} (h:Zc es=true):∀(i:Nat) (e:List D),es[i]?=some e->Yp e=true:=by
 induction es with
 |nil=>intro j c hc;simp at hc
 |cons d cs ih=>
  simp only[Zc,Kv]at h
  intro j c hc
  cases j with
  |zero=>have:d=c:=by simpa using hc
         subst this;exact h.1
  |succ j=>exact ih h.2 j c (by simpa using hc)
theorem VR.toPure {C':Cx} (hI:∀g,C.I g->C'.I g) {d:D} {v:Value} (h:VR W C d v) (hp:d.pure=true):VR W C' d v:=by
 induction h with
 |undef v=>exact .undef v
 |bool b=>exact .bool b
 |int k n=>exact .int k n
 |str s=>exact .str s
 |nilp=>exact .nilp
 |ref vs hg hc hv ih=>exact .ref vs (hI _ hg) hc (λj c hj=>ih j c hj (pureL_get (by simpa [D.pure] using hp) j c hj))
 |loc hr=>simp[D.pure]at hp
 |nils=>exact .nils
 |sl vs hp' hg hcap hx hs hc ho hv ih=>exact .sl vs hp' (hI _ hg) hcap hx hs hc ho (λi j e c he hj=>ih i j e c he hj (pureL_get (pureLL_get (by simpa [D.pure] using hp) i e he) j c hj))
 |sl0 hx=>exact .sl0 hx
 |os=>simp[D.pure]at hp
 |osc=>simp[D.pure]at hp
 |nilm=>exact .nilm
 |map hr=>simp[D.pure]at hp
 |it0 hg hh=>exact .it0 (hI _ hg) hh
 |itE=>simp[D.pure]at hp
 |nilf=>exact .nilf
 |func hx hy _ _ ih1 ih2=>
  simp only[D.pure,Kv]at hp
  exact .func hx hy (λj d v hd hv=>ih1 j d v hd hv (pureL_get hp.1 j d hd)) (λj d v hd hv=>ih2 j d v hd hv (pureL_get hp.2 j d hd))
 |nili=>exact .nili
 |iface _ ih=>exact .iface (ih (by simpa [D.pure] using hp))
 |agg hl _ ih=>exact .agg hl (λj d v hd hv=>ih j d v hd hv (pureL_get (by simpa [D.pure] using hp) j d hd))
 |tup hl _ ih=>exact .tup hl (λj d v hd hv=>ih j d v hd hv (pureL_get (by simpa [D.pure] using hp) j d hd))
theorem VR.toOld {W0:World} {C0:Cx} (hR:∀k x,C0.R k=some x->C.R k=some x) {d:D} {v:Value} (h:VR W C d v):∀ {v0:Value},VR W0 C0 d v0->VR W ⟨C.P,C0.R,C.I⟩ d v:=by
 induction h with
 |undef v=>intro v0 _;exact .undef v
 |bool b=>intro v0 _;exact .bool b
 |int k n=>intro v0 _;exact .int k n
 |str s=>intro v0 _;exact .str s
 |nilp=>intro v0 _;exact .nilp
 |ref vs hg hc hv ih=>
  intro v0 h0
  cases h0 with
  |ref vs0 _ _ hv0=>exact .ref vs hg hc (λj c hj=>ih j c hj (hv0 j c hj))
 |loc hr=>
  intro v0 h0
  cases h0 with
  |loc hr0=>
   have e:=hR _ _ hr0
   rw[hr]at e
   cases e
   exact .loc hr0
 |nils=>intro v0 _;exact .nils
 |sl vs hp hg hcap hx hs hc ho hv ih=>
  intro v0 h0
  cases h0 with
  |sl vs0 _ _ _ _ _ _ _ hv0=>exact .sl vs hp hg hcap hx hs hc ho (λi j e c he hj=>ih i j e c he hj (hv0 i j e c he hj))
  |sl0 _=>simp at hp
 |sl0 hx=>intro v0 _;exact .sl0 hx
 |os hr hl hx hx' hx''=>
  intro v0 h0
  cases h0 with
  |os hr0 _ _ _ _=>
   have e:=hR _ _ hr0
   rw[hr]at e
   cases e
   exact .os hr0 hl hx hx' hx''
 |osc hr hl hc=>
  intro v0 h0
  cases h0 with
  |osc hr0 _ _=>
   have e:=hR _ _ hr0
   rw[hr]at e
   cases e
   exact .osc hr0 hl hc
 |nilm=>intro v0 _;exact .nilm
 |map hr=>
  intro v0 h0
  cases h0 with
  |map hr0=>
   have e:=hR _ _ hr0
   rw[hr]at e
   cases e
   exact .map hr0
 |it0 hg hh=>intro v0 _;exact .it0 hg hh
 |itE hr hg hh hl=>
  intro v0 h0
  cases h0 with
  |itE hr0 _ _ _=>
   have e:=hR _ _ hr0
   rw[hr]at e
   cases e
   exact .itE hr0 hg hh hl
 |nilf=>intro v0 _;exact .nilf
 |func hx hy _ _ ih1 ih2=>
  intro v0 h0
  cases h0 with
  |func hx0 hy0 h1 h2=>
   refine .func hx hy (λj d v hd hv=>?_) (λj d v hd hv=>?_)
   ·have hj:=(Kr.1 hd).1
    exact ih1 j d v hd hv (h1 j d _ hd (Uz (by omega)))
   ·have hj:=(Kr.1 hd).1
    exact ih2 j d v hd hv (h2 j d _ hd (Uz (by omega)))
 |nili=>intro v0 _;exact .nili
 |iface _ ih=>
  intro v0 h0
  cases h0 with
  |iface h0=>exact .iface (ih h0)
 |agg hl _ ih=>
  intro v0 h0
  cases h0 with
  |agg hl0 h1=>
   refine .agg hl (λj d v hd hv=>?_)
   have hj:=(Kr.1 hd).1
   exact ih j d v hd hv (h1 j d _ hd (Uz (by omega)))
 |tup hl _ ih=>
  intro v0 h0
  cases h0 with
  |tup hl0 h1=>
   refine .tup hl (λj d v hd hv=>?_)
   have hj:=(Kr.1 hd).1
   exact ih j d v hd hv (h1 j d _ hd (Uz (by omega)))
/-! ### Freezing -/
theorem Kn {α β:Type} {f:α->Option β}:∀ {l:List α} {m:List β},mapO f l=some m->m.length=l.length/\∀(j:Nat) (b:β),m[j]?=some b->∃a:α,l[j]?=some a/\f a=some b
 | [],m,h=>by simp[mapO]at h;subst h;exact⟨rfl,λj b hb=>by simp at hb⟩
 |a::l,m,h=>by
  unfold mapO at h
  split at h
  ·rename_i b m' h1 h2
   cases h
   obtain⟨e,hm⟩:=Kn h2
   refine⟨by simp[e],λj c hc=>?_⟩
   cases j with
   |zero=>have:b=c:=by simpa using hc
          subst this;exact⟨a,rfl,h1⟩
   |succ j=>obtain⟨a',ha,hf⟩:=hm j c (by simpa using hc);exact⟨a',by simpa using ha,hf⟩
  ·cases h
theorem freeze_one:∀ {n:Nat} {d d':D},Xp S n d=some d'->d.one=true->d'.one=true
 |0,d,d',h,_=>by simp[Xp]at h
 |n+1,d,d',h,h1=>by
  unfold Xp at h
  split at h
  ·cases h;exact h1
  ·split at h
   ·obtain⟨_,_,rfl⟩:=Ks.1 h;rfl
   ·split at h
    ·split at h
     ·obtain⟨_,_,rfl⟩:=Ks.1 h;rfl
     ·cases h
    ·cases h
   ·obtain⟨_,_,rfl⟩:=Ks.1 h;rfl
   ·split at h
    ·split at h
     ·obtain⟨_,_,rfl⟩:=Ks.1 h;rfl
     ·cases h
    ·cases h
   ·split at h
    ·cases h;rfl
    ·cases h
   ·obtain⟨_,_,rfl⟩:=Ks.1 h;rfl
   ·simp[D.one]at h1
   ·simp[D.one]at h1
   ·cases h
def Cx.froze (C:Cx) (S:List Ob) (R:Nat->Option (Nat×Nat×Nat×TypeId)):Cx:=⟨C.P,R,λb=>C.I b∨Live C S b⟩
theorem freeze_vr (hs:SR W C S) (R:Nat->Option (Nat×Nat×Nat×TypeId)):∀ {n:Nat} {d d':D} {v:Value},Xp S n d=some d'->VR W C d v->VR W (C.froze S R) d' v
 |0,d,d',v,h,_=>by simp[Xp]at h
 |n+1,d,d',v,h,hv=>by
  unfold Xp at h
  split at h
  ·rename_i hp
   cases h
   exact hv.toPure (λg hg=>Or.inl hg) hp
  ·split at h
   ·rename_i cs o _
    obtain⟨cs',hm,rfl⟩:=Ks.1 h
    obtain⟨hl,hg⟩:=Kn hm
    cases hv with
    |ref vs hI hc hvv=>
     exact .ref vs (.inl hI) (λj hj=>hc j (by omega)) (λj c hj=>by
      obtain⟨a,ha,hf⟩:=hg j c hj
      exact freeze_vr hs R hf (hvv j a ha))
   ·rename_i k i o _
    split at h
    ·rename_i s es hk
     split at h
     ·rename_i cs hi
      obtain⟨cs',hm,rfl⟩:=Ks.1 h
      obtain⟨hl,hg⟩:=Kn hm
      cases hv with
      |loc hr=>
       rename_i g sz tot T
       obtain⟨⟨rfl,h2,h3,vs,h4,h5,h6⟩,hnI,hlt⟩:=hs.at hk (by simp) hr
       have hil:=(Kr.1 hi).1
       refine .ref (λj=>vs[i*s+j]?.getD undef) (.inr ⟨k,_,s,tot,T,hk,by simp,hr⟩) (λj hj=>?_) (λj c hj=>?_)
       ·have:i*s+j<vs.size:=by
         rw[h5]
         exact Nat.lt_of_lt_of_le (Jt hil (by rw[<-h3 _ _ hi];omega)) h2
        rw[cell_of_row W g _ vs T (0,0) h4]
        simp[this]
       ·obtain⟨a,ha,hf⟩:=hg j c hj
        obtain⟨u,hu,hr',-⟩:=h6 i j cs a hi ha
        rw[hu]
        exact freeze_vr hs R hf hr'
     ·cases h
    ·cases h
   ·rename_i sz es x _
    obtain⟨es',hm,rfl⟩:=Ks.1 h
    obtain⟨hl,hg⟩:=Kn hm
    cases hv with
    |sl vs hpos hI hcap hx hss hc ho hvv=>
     rename_i g b cap
     have hgg:∀(i:Nat) (e':List D),es'[i]?=some e'->∃e,es[i]?=some e/\e'.length=e.length/\∀(j:Nat) (c':D),e'[j]?=some c'->∃c,e[j]?=some c/\Xp S n c=some c':=by
      intro i e' he'
      obtain⟨e,he,hf⟩:=hg i e' he'
      obtain⟨hl',hg'⟩:=Kn hf
      exact⟨e,he,hl',hg'⟩
     have:=VR.sl (W:=W) (C:=C.froze S R) (sz:=sz) (es:=es') (x:=x) (g:=g) (b:=b) (cap:=cap) vs (by omega) (.inl hI) (by omega) (λhxx=>by rw[hl];exact hx hxx)
      (λi e' he'=>by obtain⟨e,he,hl',-⟩:=hgg i e' he';rw[hl'];exact hss i e he) (λi j hi hj=>hc i j (by omega) hj)
      (λi j e' c' he' hc'=>by
       obtain⟨e,he,-,hj⟩:=hgg i e' he'
       obtain⟨c,hcc,hf⟩:=hj j c' hc'
       exact freeze_one hf (ho i j e c he hcc))
      (λi j e' c' he' hc'=>by
       obtain⟨e,he,-,hj⟩:=hgg i e' he'
       obtain⟨c,hcc,hf⟩:=hj j c' hc'
       exact freeze_vr hs R hf (hvv i j e c he hcc))
     rw[hl]at this
     exact this
    |sl0 hx=>
     have:es'=[]:=Ug (by simpa using hl)
     subst this
     exact .sl0 hx
   ·rename_i k i len x _
    split at h
    ·rename_i s es hk
     split at h
     ·rename_i hle
      obtain⟨es',hm,rfl⟩:=Ks.1 h
      obtain⟨hl,hg⟩:=Kn hm
      obtain⟨g,sz',tot,cap,T,rfl,hr,hlc,hx,-,-⟩:=hv.of_os
      obtain⟨⟨rfl,h2,h3,vs,h4,h5,h6⟩,hnI,hlt⟩:=hs.at hk (by simp) hr
      have hlen:((es.drop i).take len).length=len:=by simp;omega
      have hgg:∀(p:Nat) (e':List D),es'[p]?=some e'->p<len/\∃e,es[i+p]?=some e/\e'.length=e.length/\∀(j:Nat) (c':D),e'[j]?=some c'->∃c,e[j]?=some c/\Xp S n c=some c':=by
       intro p e' he'
       obtain⟨e,he,hf⟩:=hg p e' he'
       obtain⟨hl',hg'⟩:=Kn hf
       rw[List.getElem?_take]at he
       split at he
       ·exact⟨by assumption,e,by simpa using he,hl',hg'⟩
       ·cases he
      by_cases h0:len=0
      ·have:es'=[]:=Ug (by rw[hl,hlen,h0])
       subst this
       rw[h0]
       exact .sl0 (λhxx=>by rw[hx hxx,h0])
      ·have:=VR.sl (W:=W) (C:=C.froze S R) (sz:=s) (es:=es') (x:=x) (g:=g) (b:=i*s) (cap:=cap) (λp j=>vs[(i+p)*s+j]?.getD undef) (by omega) (.inr ⟨k,_,s,tot,T,hk,by simp,hr⟩) (by omega) (λhxx=>by rw[hl,hlen];exact hx hxx)
        (λp e' he'=>by obtain⟨_,e,he,hl',-⟩:=hgg p e' he';rw[hl'];exact h3 _ _ he)
        (λp j hp hj=>by
         rw[hl,hlen]at hp
         have hb:(i+p)*s+j<vs.size:=by rw[h5];exact Nat.lt_of_lt_of_le (Jt (n:=es.length) (by omega) hj) h2
         rw[show i*s+(p*s+j)=(i+p)*s+j by rw[Nat.add_mul];omega,cell_of_row W g _ vs T (0,0) h4]
         simp[hb])
        (λp j e' c' he' hc'=>by
         obtain⟨_,e,he,-,hj⟩:=hgg p e' he'
         obtain⟨c,hcc,hf⟩:=hj j c' hc'
         obtain⟨u,-,-,ho⟩:=h6 _ j e c he hcc
         exact freeze_one hf ho)
        (λp j e' c' he' hc'=>by
         obtain⟨_,e,he,-,hj⟩:=hgg p e' he'
         obtain⟨c,hcc,hf⟩:=hj j c' hc'
         obtain⟨u,hu,hr',-⟩:=h6 _ j e c he hcc
         rw[hu]
         exact freeze_vr hs R hf hr')
       rw[hl,hlen]at this
       exact this
     ·cases h
    ·cases h
   ·rename_i f x y _
    split at h
    ·rename_i x' y' h1 h2
     cases h
     obtain⟨l1,g1⟩:=Kn h1
     obtain⟨l2,g2⟩:=Kn h2
     cases hv with
     |func hx hy hvx hvy=>
      exact .func (by omega) (by omega) (λj d u hd hu=>by obtain⟨a,ha,hf⟩:=g1 j d hd;exact freeze_vr hs R hf (hvx j a u ha hu)) (λj d u hd hu=>by obtain⟨a,ha,hf⟩:=g2 j d hd;exact freeze_vr hs R hf (hvy j a u ha hu))
    ·cases h
   ·rename_i t d _
    obtain⟨d',hd,rfl⟩:=Ks.1 h
    cases hv with
    |iface hv=>exact .iface (freeze_vr hs R hd hv)
   ·rename_i cs _
    obtain⟨cs',hm,rfl⟩:=Ks.1 h
    obtain⟨hl,hg⟩:=Kn hm
    cases hv with
    |agg hl' hvv=>exact .agg (by omega) (λj d u hd hu=>by obtain⟨a,ha,hf⟩:=hg j d hd;exact freeze_vr hs R hf (hvv j a u ha hu))
   ·rename_i cs _
    obtain⟨cs',hm,rfl⟩:=Ks.1 h
    obtain⟨hl,hg⟩:=Kn hm
    cases hv with
    |tup hl' hvv=>exact .tup (by omega) (λj d u hd hu=>by obtain⟨a,ha,hf⟩:=hg j d hd;exact freeze_vr hs R hf (hvv j a u ha hu))
   ·cases h
end
end Go.Proofs.YtaklebjoenophaaGreat.Dm
