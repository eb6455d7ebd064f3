/-
  The machine's copy onto a slice of known capacity, where the row may grow.
  An argument of plain types, as it lies in memory, is a datum of the machine; and it reads as before where nothing old turned.
-/
import Derived.Test.YtaklebjoenophaaGreatDmP
import Derived.Laws.Externs
import GoSem.Extern.SlicesOverlaps
import GoSem.Extern.MapsClone
import Derived.Lib.Bytealg
import Derived.Test.YtaklebjoenophaaGreatDmR
import Derived.ChangeArms
import Derived.DataReads
import Derived.Carry
set_option linter.unusedSimpArgs false
set_option linter.unusedVariables false
namespace Go.Proofs.YtaklebjoenophaaGreat.Dm
open Go Go.RowKit
section
variable {P : Program} {W : World} {C : Cx} {S : List Ob}
theorem head_spec (hs:SR W C S) {sz n m:Nat} {x:D} {v:Value} {es:List (List D)} (hx:VR W C x v) (hm:lenS x=some m) (h:headOf S sz n x=some es):
  ∃a cap vs,v=.slice a m cap/\es.length=n/\FL W C sz es vs/\(0<n->∃g b,a=some ⟨g,b,none⟩/\∀j u,vs[j]?=some u->W.cell? ⟨g,b+j,none⟩=some u):=by
 have gen:∀ {x:D} {es0:List (List D)},VR W C x v->lenS x=some m->Jw S sz x=some es0->n<=es0.length->es0.take n=es->
   ∃a cap vs,v=.slice a m cap/\es.length=n/\FL W C sz es vs/\(0<n->∃g b,a=some ⟨g,b,none⟩/\∀j u,vs[j]?=some u->W.cell? ⟨g,b+j,none⟩=some u):=by
  intro x es0 hx hm hsrc hn he
  obtain⟨a,cap,vs,hv,-,hf,hc⟩:=src_spec hs hx hsrc
  have hmm:es0.length=m:=by
   subst hv
   generalize es0.length=q at hx
   cases hx <;> simp_all[lenS]
  have:=hf.dropTake 0 n (by omega)
  simp only[List.drop_zero,Nat.zero_mul]at this
  subst he
  refine⟨a,cap,vs.take (n*sz),by rw[hv,hmm],by simp;omega,this,λh0=>?_⟩
  obtain⟨g,b,ha,hj⟩:=hc (by omega)
  refine⟨g,b,ha,λj u hu=>hj j u ?_⟩
  rw[List.getElem?_take]at hu
  split at hu
  ·exact hu
  ·cases hu
 unfold headOf at h
 split at h
 ·rename_i k i len cap
  split at h
  ·rename_i z es0 hk
   split at h
   ·rename_i hc
    obtain⟨rfl,hn,hl⟩:=hc
    cases h
    cases hx with
    |osc hr hl' hcc=>
     rename_i g sz' tot T
     obtain⟨⟨rfl,-⟩,-,-⟩:=hs.at hk (by simp) hr
     have hos:VR W C (.os k i n false) (.slice (some ⟨g,i*z,none⟩) n cap):=.os hr (by omega) (λe=>by cases e) (λ_=>hcc) (by omega)
     have hsrc:Jw S z (.os k i n false)=some ((es0.drop i).take n):=by
      simp only[Jw,hk]
      rw[if_pos ⟨trivial,hl⟩]
     obtain⟨a,ca,vs,hv,-,hf,hc⟩:=src_spec hs hos hsrc
     have hlen:((es0.drop i).take n).length=n:=by simp;omega
     rw[hlen]at hv hc
     cases hv
     simp only[lenS,Uw]at hm
     subst hm
     exact⟨_,_,vs,rfl,hlen,hf,hc⟩
   ·cases h
  ·cases h
 ·split at h
  ·rename_i es0 hsrc
   split at h
   ·rename_i hn
    cases h
    exact gen hx hm hsrc hn rfl
   ·cases h
  ·cases h
theorem run_dCopyC (hs:SR W C S) {ts:Array TypeId} {t ty:TypeId} (hts:ts[0]?=some t) {k i len cap:Nat} {s d:D} {vd vs:Value} {S':List Ob} (hd:VR W C (.osc k i len cap) vd) (hv:VR W C s vs) (h:dCopyC P S t k i len s=some (d,S')):
  ∃r W',(Builtin.copy_ ts ty #[vd,vs]).run P W=.ok r W'/\VR W' C d r/\SR W' C S'/\Fr W C S W' C S':=by
 unfold dCopyC at h
 split at h
 ·rename_i e he
  have hu:=elem_underlying he
  split at h
  ·rename_i sz hsz
   split at h
   ·rename_i m hm
    split at h
    ·rename_i src hsrc
     split at h
     ·rename_i z es hk
      split at h
      ·rename_i hcond
       obtain⟨rfl,hil⟩:=hcond
       cases h
       cases hd with
       |osc hr hl hcc=>
       rename_i g sz' tot T
       obtain⟨⟨rfl,h2,h3,cur,h4,h5,h6⟩,hnI,hlt⟩:=hs.at hk (by simp) hr
       obtain⟨a,ca,vn,rfl,hnl,hFn,han⟩:=head_spec hs hv hm hsrc
       obtain⟨n,hn⟩:∃n,n=min m len:=⟨_,rfl⟩
       have hnle:n<=len:=by omega
       rw[<-hn]at hnl han ⊢
       have hvl:vn.length=n*z:=by rw[hFn.len,hnl]
       have hload:(Builtin.firstCells z (Nat.min m len) (.slice a m ca)).run P W=.ok vn.toArray W:=by
        rw[show Nat.min m len=n from hn.symm]
        cases ha:a with
        |none=>
         have h0:n=0:=by
          rcases Nat.eq_zero_or_pos n with h0 |h0
          ·exact h0
          ·obtain⟨g',o',e',-⟩:=han h0
           rw[ha]at e';cases e'
         have:vn=[]:=Ug (by rw[hvl,h0];simp)
         rw[this,h0]
         simp[Builtin.firstCells]
        |some a'=>
         have:=run_loadCells_list (P:=P) W a' vn (λj u hu=>by
          have hpos:0<n:=by
           rcases Nat.eq_zero_or_pos n with h0 |h0
           ·have:vn.length=0:=by rw[hvl,h0];simp
            rw[Ug this]at hu;cases hu
           ·exact h0
          obtain⟨g',o',e',hc'⟩:=han hpos
          rw[ha]at e';cases e'
          rw[Jm];exact hc' j u hu)
         rw[hvl]at this
         exact this
       have hroom:(i+n)*z<=tot:=by rw[<-hcc];exact Va _ (by omega)
       have hfit:i*z+vn.length<=cur.size:=by
        rw[hvl,h5,<-Nat.add_mul]
        exact hroom
       have hone:∀u∈vn,u.oneCell'=true:=by
        rcases Nat.eq_zero_or_pos z with hz |hz
        ·subst hz;intro u hu;have h0:vn.length=0:=by rw[hvl];simp
         rw[Ug h0]at hu;cases hu
        ·exact hFn.ones hz
       have hst:=run_storeCells_at P g (i*z) T vn 0 cur W h4 (by simpa using hfit) hone
       simp only[Nat.add_zero]at hst
       have hput:=hs.put (ob':=.row z (es.take i++src++es.drop (i+n))) (W':=W.setRow g (cur.toList.take (i*z)++vn++cur.toList.drop (i*z+vn.length)).toArray) hk (by simp) hr rfl rfl rfl (setRow_size _ _ _) (λb hb=>setRow_other W g b _ hb) (λhm=>by
        have hes:∀p (e':List D),(es.take i++src++es.drop (i+n))[p]?=some e'->if p<i then es[p]?=some e' else if p<i+n then src[p-i]?=some e' else es[p]?=some e':=by
         intro p e' he'
         by_cases q1:p<i
         ·rw[if_pos q1]
          rw[Vg,Ut (by simp;omega),List.getElem?_take,if_pos q1]at he'
          exact he'
         ·rw[if_neg q1]
          rw[Vg,Vh (by simp;omega)]at he'
          have ht:(es.take i).length=i:=by simp;omega
          rw[ht]at he'
          by_cases q2:p<i+n
          ·rw[if_pos q2]
           rw[Ut (by omega)]at he'
           exact he'
          ·rw[if_neg q2]
           rw[Vh (by omega),List.getElem?_drop,hnl]at he'
           rw[<-he'];congr 1;omega
        have hlenE:(es.take i++src++es.drop (i+n)).length*z<=tot:=by
         have:(es.take i++src++es.drop (i+n)).length<=max es.length (i+n):=by simp[hnl];omega
         refine Vk (Va _ this) ?_
         rcases Nat.le_total es.length (i+n) with q |q
         ·rw[Nat.max_eq_right q];exact hroom
         ·rw[Nat.max_eq_left q];exact h2
        refine⟨rfl,hlenE,λp e' he'=>?_,_,setRow_heap W g cur _ T _ h4,?_,λp j e' c he' hc'=>?_⟩
        ·have:=hes p e' he'
         split at this
         ·exact h3 _ _ this
         ·split at this
          ·exact hFn.el _ _ this
          ·exact h3 _ _ this
        ·simp only[List.size_toArray,Ku,Vf,Array.length_toList]
         rw[Ve (l:=cur.toList)]
         simp only[Array.length_toList]
         omega
        ·suffices hh:∃v',(cur.toList.take (i*z)++vn++cur.toList.drop (i*z+vn.length))[p*z+j]?=some v'/\VR W C c v'/\c.one=true by
          obtain⟨v',q1,q2,q3⟩:=hh
          exact⟨v',by simpa only[Ub] using q1,hm _ _ q2,q3⟩
         rw[splice_get (by simpa using hfit),hvl,<-Nat.add_mul]
         have hE:=hes p e' he'
         split at hE
         ·rename_i q
          obtain⟨u,hu',hr',ho'⟩:=h6 _ _ _ _ hE hc'
          have hj:j<z:=by rw[<-h3 _ _ hE];exact (Kr.1 hc').1
          exact⟨u,by rw[if_pos (Jt q hj)];simpa using hu',hr',ho'⟩
         ·rename_i q
          split at hE
          ·rename_i q2
           obtain⟨u,hu',hr'⟩:=hFn.val _ _ _ _ hE hc'
           have hj:j<z:=by rw[<-hFn.el _ _ hE];exact (Kr.1 hc').1
           have e1:p*z=i*z+(p-i)*z:=by rw[<-Nat.add_mul];congr 1;omega
           refine⟨u,?_,hr',hFn.one _ _ _ _ hE hc'⟩
           rw[if_neg (by rw[e1];omega),if_pos (Jt q2 hj),e1]
           rw[show i*z+(p-i)*z+j-i*z=(p-i)*z+j by omega]
           exact hu'
          ·rename_i q2
           obtain⟨u,hu',hr',ho'⟩:=h6 _ _ _ _ hE hc'
           have e1:(i+n)*z<=p*z:=Va _ (by omega)
           have e2:i*z<=(i+n)*z:=Va _ (by omega)
           exact⟨u,by rw[if_neg (by omega),if_neg (by omega)];simpa using hu',hr',ho'⟩)
       refine⟨goInt (Nat.min m len),_,?_,by rw[show Nat.min m len=n from hn.symm];exact .int _ _,hput.1,hput.2⟩
       simp only[Builtin.copy_,hts,Sem.run_bind,run_underlying hu,Result.andThen_ok,Builtin.lenOf,Sem.run_pure,Jg hsz,hload,hst,Ub,Uc,Ky]
      ·cases h
     ·cases h
    ·cases h
   ·cases h
  ·cases h
 ·cases h
theorem run_dCopyA (hs:SR W C S) {ts:Array TypeId} {t ty:TypeId} (hts:ts[0]?=some t) {dd s d:D} {vd vs:Value} {S':List Ob} (hd:VR W C dd vd) (hv:VR W C s vs) (h:dCopyA P S t dd s=some (d,S')):
  ∃r W',(Builtin.copy_ ts ty #[vd,vs]).run P W=.ok r W'/\VR W' C d r/\SR W' C S'/\Fr W C S W' C S':=by
 unfold dCopyA at h
 split at h
 ·exact run_dCopyC hs hts hd hv h
 ·cases hv with
  |osc hr hl hc=>exact run_dCopy hs hts hd (.os hr hl (λe=>by cases e) (λ_=>hc) (by omega)) h
 ·exact run_dCopy hs hts hd hv h
theorem run_lay (hs:SR W C S) {k i z:Nat} {es src:List (List D)} {vn:List Value} (hk:S[k]?=some (.row z es)) (hil:i+src.length<=es.length) {g sz' tot:Nat} {T:TypeId} (hr:C.R k=some (g,sz',tot,T)) (hFn:FL W C z src vn):
  ∃W',(storeCells ⟨g,i*z,none⟩ vn).run P W=.ok () W'/\SR W' C (S.set k (.row z (es.take i++src++es.drop (i+src.length))))/\Fr W C S W' C (S.set k (.row z (es.take i++src++es.drop (i+src.length)))):=by
 obtain⟨⟨rfl,h2,h3,cur,h4,h5,h6⟩,hnI,hlt⟩:=hs.at hk (by simp) hr
 have hfit:i*z+vn.length<=cur.size:=by
  rw[hFn.len,h5,<-Nat.add_mul]
  exact Vk (Va _ (by omega)) h2
 have hone:∀u∈vn,u.oneCell'=true:=by
  rcases Nat.eq_zero_or_pos z with hz |hz
  ·subst hz
   intro u hu
   have:vn.length=0:=by rw[hFn.len];simp
   rw[Ug this]at hu
   cases hu
  ·exact hFn.ones hz
 have hst:=run_storeCells_at P g (i*z) T vn 0 cur W h4 (by simpa using hfit) hone
 simp only[Nat.add_zero]at hst
 have hput:=hs.put (ob':=.row z (es.take i++src++es.drop (i+src.length))) (W':=W.setRow g (cur.toList.take (i*z)++vn++cur.toList.drop (i*z+vn.length)).toArray) hk (by simp) hr rfl rfl rfl (setRow_size _ _ _) (λb hb=>setRow_other W g b _ hb) (λhm=>by
  have hes:∀p (e':List D),(es.take i++src++es.drop (i+src.length))[p]?=some e'->if p<i then es[p]?=some e' else if p<i+src.length then src[p-i]?=some e' else es[p]?=some e':=by
   intro p e' he'
   have:=splice_get (L:=es) (vs:=src) (a:=i) (by omega) p
   rw[this]at he'
   by_cases q1:p<i
   ·rw[if_pos q1]at he' ⊢;exact he'
   ·rw[if_neg q1]at he' ⊢
    by_cases q2:p<i+src.length
    ·rw[if_pos q2]at he' ⊢;exact he'
    ·rw[if_neg q2]at he' ⊢;exact he'
  have hlenE:(es.take i++src++es.drop (i+src.length)).length=es.length:=by simp;omega
  refine⟨rfl,by rw[hlenE];exact h2,λp e' he'=>?_,_,setRow_heap W g cur _ T _ h4,?_,λp j e' c he' hc'=>?_⟩
  ·have:=hes p e' he'
   split at this
   ·exact h3 _ _ this
   ·split at this
    ·exact hFn.el _ _ this
    ·exact h3 _ _ this
  ·simp only[List.size_toArray,Ku,Vf,Array.length_toList]
   rw[Ve (l:=cur.toList)]
   simp only[Array.length_toList]
   omega
  ·suffices hh:∃v',(cur.toList.take (i*z)++vn++cur.toList.drop (i*z+vn.length))[p*z+j]?=some v'/\VR W C c v'/\c.one=true by
    obtain⟨v',q1,q2,q3⟩:=hh
    exact⟨v',by simpa only[Ub] using q1,hm _ _ q2,q3⟩
   rw[splice_get (by simpa using hfit),hFn.len,<-Nat.add_mul]
   have hE:=hes p e' he'
   split at hE
   ·rename_i q
    obtain⟨u,hu',hr',ho'⟩:=h6 _ _ _ _ hE hc'
    have hj:j<z:=by rw[<-h3 _ _ hE];exact (Kr.1 hc').1
    exact⟨u,by rw[if_pos (Jt q hj)];simpa using hu',hr',ho'⟩
   ·rename_i q
    split at hE
    ·rename_i q2
     obtain⟨u,hu',hr'⟩:=hFn.val _ _ _ _ hE hc'
     have hj:j<z:=by rw[<-hFn.el _ _ hE];exact (Kr.1 hc').1
     have e1:p*z=i*z+(p-i)*z:=by rw[<-Nat.add_mul];congr 1;omega
     refine⟨u,?_,hr',hFn.one _ _ _ _ hE hc'⟩
     rw[if_neg (by rw[e1];omega),if_pos (Jt q2 hj),e1]
     rw[show i*z+(p-i)*z+j-i*z=(p-i)*z+j by omega]
     exact hu'
    ·rename_i q2
     obtain⟨u,hu',hr',ho'⟩:=h6 _ _ _ _ hE hc'
     have e1:(i+src.length)*z<=p*z:=Va _ (by omega)
     have e2:i*z<=(i+src.length)*z:=Va _ (by omega)
     exact⟨u,by rw[if_neg (by omega),if_neg (by omega)];simpa using hu',hr',ho'⟩)
 exact⟨_,hst,hput.1,hput.2⟩
theorem run_dClear (hs:SR W C S) {ts:Array TypeId} {t ty:TypeId} (hts:ts[0]?=some t) {x:D} {vx:Value} {S':List Ob} (hx:VR W C x vx) (h:dClear P S t x=some S'):
  ∃W',(Builtin.clear_ ts ty #[vx]).run P W=.ok (.tuple #[]) W'/\SR W' C S'/\Fr W C S W' C S':=by
 unfold dClear at h
 split at h
 case h_2=>cases h
 rename_i e he
 have hu:=elem_underlying he
 split at h
 case h_2=>cases h
 rename_i n z hsz hz
 obtain⟨zv,hzr,⟨ii,hi,hiz⟩,hzv⟩:=run_zero hz
 have hzc:=(Ju (W:=W) (C:=C) hzv).cells (fromVal_def hzv)
 split at h
 case isFalse=>cases h
 rename_i hzl
 split at h
 case h_2=>cases h
 rename_i k i len b
 split at h
 case h_2=>cases h
 rename_i sz es hk
 split at h
 case isFalse=>cases h
 rename_i hc
 obtain⟨rfl,hlen,hil⟩:=hc
 cases h
 obtain⟨g,sz',tot,cap,T,rfl,hr,hl,hxx,hx',hx''⟩:=hx.of_os
 obtain⟨⟨rfl,-⟩,-,-⟩:=hs.at hk (by simp) hr
 have hfz:=zeros_fl hzc hzl.2 len
 rw[hzl.1]at hfz
 have hrl:(List.replicate len z.cells).length=len:=List.length_replicate
 obtain⟨W',hst,h1,h2⟩:=run_lay (P:=P) hs (i:=i) hk (by rw[hrl];exact hil) hr hfz
 rw[hrl]at h1 h2
 refine⟨W',?_,h1,h2⟩
 obtain⟨len,rfl⟩:∃m,len=m+1:=⟨len-1,by omega⟩
 simp only[Builtin.clear_,hts,Sem.run_bind,run_underlying hu,Result.andThen_ok,hzr,hst,Sem.run_pure,Ub,Uc]
def dCount (args:List D):Option D:=
 match args with
 | [.str s,.int .u8 c]=>some (.int .i64 (s.data.toList.count c.toNat.toUInt8:Nat))
 |_=>none
def dIndexB (args:List D):Option D:=
 match args with
 | [.str s,.int .u8 c]=>some (.int .i64 (Lib.indexByte s.data.toList c.toNat.toUInt8))
 |_=>none
end
inductive TC (P:Program):TypeId->List D->Prop where
 |bool {t:TypeId} (ht:P.underlying t=some .bool) (b:Bool):TC P t [.bool b]
 |int {t:TypeId} {k:IntKind} {n:Int} (ht:P.underlying t=some (.int k)) (hw:(Lit.int k n).wf=true):TC P t [.int k n]
 |str {t:TypeId} {s:ByteArray} (ht:P.underlying t=some .string) (hs:s.size<=maxLen):TC P t [.str s]
 |nils {t e:TypeId} (ht:P.underlying t=some (.slice e)):TC P t [.nils]
 |sl {t e:TypeId} {es:List (List D)} {x:Bool} (ht:P.underlying t=some (.slice e)) (hl:es.length<=maxLen) (hes:∀(j:Nat) (c:List D),es[j]?=some c->TC P e c):TC P t [.sl (P.cellsOf e) es x]
 |struct {t:TypeId} {fs:Array Field} {cs:List D} (ht:P.underlying t=some (.struct fs)) (hl:cs.length=P.cellsOf t) (hf:∀f∈fs.toList,TC P f.type ((cs.drop f.offset).take (P.cellsOf f.type))):TC P t cs
 |array {t e:TypeId} {n:Nat} {cs:List D} (ht:P.underlying t=some (.array n e)) (hl:cs.length=P.cellsOf t) (hf:∀i,i<n->TC P e ((cs.drop (i*P.cellsOf e)).take (P.cellsOf e))):TC P t cs
def chainB (P:Program):Nat->List (TypeId×Nat)->Nat->Bool
 |o,[],tot=>o == tot
 |o,p::l,tot=>p.2 == o && chainB P (o+P.cellsOf p.1) l tot
def plainTs (P:Program) (ts:List TypeId):Bool:=
 ts.all λt=>match P.underlying t with
  |some .bool |some (.int _) |some .string=>true
  |some (.slice e)=>ts.contains e && decide (0<P.cellsOf e)
  |some (.struct fs)=>fs.toList.all (λf=>ts.contains f.type) && chainB P 0 (fs.toList.map λf=>(f.type,f.offset)) (P.cellsOf t)
  |some (.array n e)=>ts.contains e && chainB P 0 ((List.range n).map λi=>(e,i*P.cellsOf e)) (P.cellsOf t)
  |_=>false
theorem pureL_app:∀ {a b:List D},Yp a=true->Yp b=true->Yp (a++b)=true
 | [],b,_,h=>h
 |d::a,b,h,k=>by
  rw[Uv,Yp] at*
  rw[Kv]at h ⊢
  exact⟨h.1,pureL_app h.2 k⟩
theorem chain_le {P:Program}:∀ {l:List (TypeId×Nat)} {o tot:Nat},chainB P o l tot=true->o<=tot/\∀p∈l,o<=p.2/\p.2+P.cellsOf p.1<=tot
 | [],o,tot,h=>by
  simp[chainB]at h
  exact⟨by omega,λp hp=>by cases hp⟩
 |q::l,o,tot,h=>by
  simp only[chainB,Kv,beq_iff_eq]at h
  obtain⟨i1,i2⟩:=chain_le h.2
  refine⟨by omega,λp hp=>?_⟩
  rcases List.mem_cons.1 hp with rfl |hp
  ·omega
  ·have:=i2 p hp;omega
/-! ### How much a datum holds -/
mutual
def Zy:D->Nat
 | .str s=>s.size+1
 | .sl _ es _=>Jj es+1
 | .agg cs=>Yn cs
 |_=>1
def Yn:List D->Nat
 | []=>0
 |d::l=>Zy d+Yn l
def Jj:List (List D)->Nat
 | []=>0
 |c::l=>Yn c+Jj l
end
mutual
def bulkW {H:Type}:DataW H->Nat
 | .lit (.string b)=>b.length+1
 | .slice es _=>bulkWs es+1
 | .agg ps=>bulkWs ps
 |_=>1
def bulkWs {H:Type}:List (DataW H)->Nat
 | []=>0
 |d::l=>bulkW d+bulkWs l
end
theorem bulkL_app (a b:List D):Yn (a++b)=Yn a+Yn b:=by
 induction a with
 |nil=>simp[Yn]
 |cons d a ih=>simp only[Uv,Yn,ih];omega
theorem bulkWs_eq {H:Type} (l:List (DataW H)):bulkWs l=(l.map bulkW).sum:=by
 induction l with
 |nil=>rfl
 |cons d l ih=>simp only[bulkWs,Uy,List.sum_cons,ih]
theorem bulkLL_le {H:Type}:∀ {es:List (List D)} {ys:List (DataW H)},es.length=ys.length->(∀(i:Nat) c y,es[i]?=some c->ys[i]?=some y->Yn c<=bulkW y)->Jj es<=bulkWs ys
 | [],[],_,_=>Uk _
 |c::es,y::ys,hl,h=>by
  have h0:=h 0 c y rfl rfl
  have:=bulkLL_le (es:=es) (ys:=ys) (by simpa using hl) (λi c y h1 h2=>h (i+1) c y (by simpa using h1) (by simpa using h2))
  simp only[Jj,bulkWs];omega
 | [],_::_,hl,_=>by simp at hl
 |_::_,[],hl,_=>by simp at hl
section
variable {H : Type} {enc : TypeId × Value -> H} {P : Program} {W : World} {spare : Nat -> Bool} {held : Bool} {I : Nat -> Prop}
def Cells (P:Program) (W:World) (I:Nat->Prop) (t:TypeId) (cs:List Value) (B:Nat):Prop:=∃ds:List D,TC P t ds/\VRs W ⟨P,λ_=>none,I⟩ ds cs/\Yp ds=true/\ds.all D.one=true/\Yn ds<=B
theorem cells_chain:∀ {l:List (TypeId×Nat)} {o tot:Nat} {cs:List Value} {bs:List Nat},chainB P o l tot=true->cs.length=tot->l.length<=bs.length->(∀(i:Nat) p b,l[i]?=some p->bs[i]?=some b->Cells P W I p.1 ((cs.drop p.2).take (P.cellsOf p.1)) b)->
  ∃ds:List D,ds.length=tot-o/\VRs W ⟨P,λ_=>none,I⟩ ds (cs.drop o)/\Yp ds=true/\ds.all D.one=true/\(∀p∈l,TC P p.1 ((ds.drop (p.2-o)).take (P.cellsOf p.1)))/\Yn ds<=bs.sum
 | [],o,tot,cs,bs,h,hc,_,_=>by
  simp[chainB]at h
  refine⟨[],by simp;omega,?_,rfl,rfl,(λp hp=>by cases hp),Vt _⟩
  rw[List.drop_eq_nil_of_le (by omega)]
  exact VRs.nil
 |q::l,o,tot,cs,[],h,hc,hb,hp=>by simp at hb
 |q::l,o,tot,cs,b::bs,h,hc,hb,hp=>by
  have hle:=chain_le h
  simp only[chainB,Kv,beq_iff_eq]at h
  obtain⟨rfl,h⟩:=h
  obtain⟨d0,t0,v0,p0,o0,b0⟩:=hp 0 q b rfl rfl
  obtain⟨ds,hl,hv,hpu,ho,ht,hbd⟩:=cells_chain (bs:=bs) h hc (by simpa using hb) (λi p b h1 h2=>hp (i+1) p b (by simpa using h1) (by simpa using h2))
  have hq:=(hle.2 q (List.mem_cons.2 (.inl rfl))).2
  have hd0:d0.length=P.cellsOf q.1:=by
   rw[v0.1,Ve,Vf];omega
  refine⟨d0++ds,by rw[Ku,hl,hd0];omega,?_,pureL_app p0 hpu,by rw[List.all_append,o0,ho];rfl,λp hp'=>?_,by rw[bulkL_app,List.sum_cons];omega⟩
  ·have e:cs.drop q.2=(cs.drop q.2).take (P.cellsOf q.1)++cs.drop (q.2+P.cellsOf q.1):=by
    rw[<-List.drop_drop,List.take_append_drop]
   rw[e]
   exact v0.append hv
  ·rcases List.mem_cons.1 hp' with rfl |hp'
   ·rw[Nat.sub_self,List.drop_zero,List.take_append_of_le_length (by omega),List.take_of_length_le (by omega)]
    exact t0
   ·have h1:=(chain_le h).2 p hp'
    have e:(d0++ds).drop (p.2-q.2)=ds.drop (p.2-(q.2+P.cellsOf q.1)):=by
     rw[List.drop_append,List.drop_eq_nil_of_le (by omega),Vr]
     congr 1
     omega
    rw[e]
    exact ht p hp'
theorem some_of_lt {α:Type} {l:List α} {i:Nat} (h:i<l.length):∃c,l[i]?=some c:=⟨l[i],Uh h⟩
theorem pureLL_of:∀ {l:List (List D)},(∀c∈l,Yp c=true)->Zc l=true
 | [],_=>rfl
 |c::l,h=>by
  rw[Zc,h c (List.mem_cons.2 (.inl rfl)),pureLL_of λd hd=>h d (List.mem_cons.2 (.inr hd))]
  rfl
theorem choose_list {α:Type} {p:Nat->α->Prop}:∀n,(∀i,i<n->∃x,p i x)->∃l:List α,l.length=n/\∀i x,l[i]?=some x->p i x
 |0,_=>⟨[],rfl,λi x h=>by simp at h⟩
 |n+1,h=>by
  obtain⟨l,hl,hp⟩:=choose_list n (λi hi=>h i (by omega))
  obtain⟨x,hx⟩:=h n (by omega)
  refine⟨l++[x],by simp[hl],λi y hy=>?_⟩
  by_cases hi:i<l.length
  ·rw[Ut hi]at hy;exact hp i y hy
  ·rw[Vh (by omega)]at hy
   have:i-l.length=0:=by
    by_cases h0:i-l.length=0
    ·exact h0
    ·rw[List.getElem?_eq_none (by simp;omega)]at hy;cases hy
   rw[this]at hy
   cases hy
   rw[show i=n by omega]
   exact hx
theorem cells_of_trod {ts:List TypeId} (hts:plainTs P ts=true) (hI:∀g,g<W.heap.size->I g):∀(n:Nat) (t:TypeId) (cs:List Value) (x:DataW H×List MemPlace),t∈ts->DataW.trod enc P W 0 spare held n t cs=some x->Cells P W I t cs (bulkW x.1):=by
 intro n
 induction n with
 |zero=>intro t cs x _ h;simp[DataW.trod]at h
 |succ n ih=>
  intro t cs x ht h
  have hp:=List.all_eq_true.1 hts t ht
  cases hu:P.underlying t with
  |none=>rw[hu]at hp;cases hp
  |some u=>
   rw[hu]at hp
   cases u with
   |bool=>
    obtain⟨b,rfl,rfl⟩:=DataW.trod_bool hu h
    exact⟨[.bool b],.bool hu b,VRs.cons (.bool b) VRs.nil,rfl,rfl,Uk _⟩
   |int k=>
    obtain⟨m,rfl,rfl,hw⟩:=DataW.trod_int hu h
    exact⟨[.int k m],.int hu hw,VRs.cons (.int k m) VRs.nil,rfl,rfl,Uk _⟩
   |string=>
    obtain⟨s,rfl,rfl,hs⟩:=DataW.trod_string hu h
    exact⟨[.str s],.str hu hs,VRs.cons (.str s) VRs.nil,rfl,rfl,Nat.le_of_eq (by simp[Yn,Zy,bulkW])⟩
   |slice e=>
    simp only[Kv,List.contains_iff_mem,Up]at hp
    rcases DataW.trod_slice hu h with ⟨rfl,rfl⟩ | ⟨a,len,cap,elems,rest,m,hm,rfl,rfl,-,hlc,hcm,hel,hx,-,-⟩
    ·exact⟨[.nils],.nils hu,VRs.cons .nils VRs.nil,rfl,rfl,Uk _⟩
    ·obtain rfl:n=m:=by omega
     by_cases h0:len=0
     ·subst h0
      exact⟨[.sl (P.cellsOf e) [] false],.sl hu (Vt _) (λj c hj=>by simp at hj),VRs.cons (.sl0 (λh=>by cases h)) VRs.nil,rfl,rfl,by simp[Yn,Zy,Jj,bulkW]⟩
     ·have one:∀i,i<len->∃ds:List D,TC P e ds/\ds.length=P.cellsOf e/\Yp ds=true/\ds.all D.one=true/\(∃cs',W.cells? 0 (a.add (i*P.cellsOf e)) (P.cellsOf e)=some cs'/\VRs W ⟨P,λ_=>none,I⟩ ds cs')/\∀y,(elems.map (·.1))[i]?=some y->Yn ds<=bulkW y:=by
       intro i hi
       have hk:=hx i hi
       rw[Uh (by omega)]at hk
       obtain⟨cs',h1,h2⟩:=Option.bind_eq_some_iff.1 hk
       obtain⟨ds,d1,d2,d3,d4,d5⟩:=ih e cs' _ hp.1 h2
       exact⟨ds,d1,d2.1.trans (World.cells?_some h1).2.1,d3,d4,⟨cs',h1,d2⟩,λy hy=>by
        rw[Vd,Uh (by omega)]at hy
        obtain rfl:=Kz hy
        exact d5⟩
      obtain⟨es,hes,hE⟩:=choose_list len one
      have spot:a.spot=none:=by
       obtain⟨ds,-,-,-,-,⟨cs',hc,-⟩,-⟩:=one 0 (by omega)
       have h1:=(World.cells?_some hc).2.2 0 hp.2
       have hl:=(World.cells?_some hc).2.1
       rw[Uh (by omega)]at h1
       simp only[Nat.zero_mul,Addr.add,if_true,World.cell?]at h1
       split at h1
       ·cases hs:a.spot with
        |none=>rfl
        |some s=>rw[hs]at h1;simp at h1
       ·cases h1
      obtain⟨g,b,s⟩:=a
      simp only at spot
      subst spot
      have addr:∀i j (cs':List Value),W.cells? 0 ((⟨g,b,none⟩:Addr).add (i*P.cellsOf e)) (P.cellsOf e)=some cs'->j<P.cellsOf e->∃v,cs'[j]?=some v/\W.cell? ⟨g,b+(i*P.cellsOf e+j),none⟩=some v:=by
       intro i j cs' hc hj
       obtain⟨v,hv⟩:=some_of_lt (l:=cs') (i:=j) (by rw[(World.cells?_some hc).2.1];exact hj)
       refine⟨v,hv,?_⟩
       have h1:=(World.cells?_some hc).2.2 j hj
       rw[hv]at h1
       rw[<-h1]
       congr 1
       unfold Addr.add
       split <;> split <;> simp_all <;> omega
      have hg:g<W.heap.size:=by
       obtain⟨c,hc0⟩:=some_of_lt (l:=es) (i:=0) (by omega)
       obtain⟨-,-,-,-,⟨cs',hc,-⟩,-⟩:=hE 0 c hc0
       obtain⟨v,-,h1⟩:=addr 0 0 cs' hc hp.2
       exact World.block_lt_of_cell? W _ h1
      refine⟨[.sl (P.cellsOf e) es false],.sl hu (by omega) (λj c hj=>(hE j c hj).1),VRs.cons ?_ VRs.nil,?_,rfl,by
       have:=bulkLL_le (es:=es) (ys:=elems.map (·.1)) (by simp;omega) (λi c y h1 h2=>(hE i c h1).2.2.2.2.2 y h2)
       simp only[Yn,Zy,bulkW];omega⟩
      ·rw[<-hes]
       refine .sl (λi j=>(((W.cells? 0 ((⟨g,b,none⟩:Addr).add (i*P.cellsOf e)) (P.cellsOf e))).getD [])[j]?.getD undef) (by omega) (hI g hg) (by omega) (λh=>by cases h) (λi c hc=>(hE i c hc).2.1) ?_ ?_ ?_
       ·intro i j hi hj
        obtain⟨c,hc0⟩:=some_of_lt hi
        obtain⟨-,-,-,-,⟨cs',hc,-⟩,-⟩:=hE i c hc0
        obtain⟨v,h1,h2⟩:=addr i j cs' hc hj
        rw[h2,hc,Option.getD_some,h1]
        rfl
       ·intro i j c d hi hj
        exact List.all_eq_true.1 (hE i c hi).2.2.2.1 d (Kx hj)
       ·intro i j c d hi hj
        obtain⟨-,-,-,-,⟨cs',hc,hv⟩,-⟩:=hE i c hi
        obtain⟨v,h1,h2⟩:=hv.get hj
        rw[hc,Option.getD_some,h1]
        exact h2
      ·rw[Yp,D.pure,Yp,Ua]
       exact pureLL_of λc hc=>by
        obtain⟨i,hi⟩:=Vv.1 hc
        exact (hE i c hi).2.2.1
   |struct fs=>
    simp only[Kv]at hp
    obtain⟨xs,m,hm,rfl,hl,hxl,hx⟩:=DataW.trod_struct hu h
    obtain rfl:n=m:=by omega
    obtain⟨ds,d1,d2,d3,d4,d5,d6⟩:=cells_chain (W:=W) (I:=I) (bs:=xs.map λy=>bulkW y.1) hp.2 hl (by simp;omega) (λi p b hp' hb=>by
     rw[Vd]at hp' hb
     obtain⟨f,hi,rfl⟩:=Ks.1 hp'
     obtain⟨y,hy,rfl⟩:=Ks.1 hb
     have hf:=Kx hi
     have:=hx i f (by simpa using hi)
     rw[hy]at this
     exact ih _ _ _ (by simpa using List.all_eq_true.1 hp.1 f hf) this)
    refine⟨ds,.struct hu (by omega) (λf hf=>?_),by simpa using d2,d3,d4,by rw[bulkW,bulkWs_eq,List.map_map];exact d6⟩
    simpa using d5 (f.type,f.offset) (Vq.2 ⟨f,hf,rfl⟩)
   |array k e=>
    simp only[Kv,List.contains_iff_mem]at hp
    rw[DataW.trod_step]at h
    unfold DataW.trodStep at h
    rw[hu]at h
    simp only at h
    split at h
    ·rename_i hl
     obtain⟨xs,hxs,rfl⟩:=Ks.1 h
     have hxl:=mapM_some_length hxs
     obtain⟨ds,d1,d2,d3,d4,d5,d6⟩:=cells_chain (W:=W) (I:=I) (bs:=xs.map λy=>bulkW y.1) hp.2 hl (by simp at hxl ⊢;omega) (λi p b hp' hb=>by
      rw[Vd]at hp' hb
      obtain⟨j,hi,rfl⟩:=Ks.1 hp'
      obtain⟨y,hy,rfl⟩:=Ks.1 hb
      have:=mapM_some_get hxs i j hi
      rw[hy]at this
      exact ih _ _ _ hp.1 this)
     refine⟨ds,.array hu (by omega) (λi hi=>?_),by simpa using d2,d3,d4,by rw[bulkW,bulkWs_eq,List.map_map];exact d6⟩
     simpa using d5 (e,i*P.cellsOf e) (Vq.2 ⟨i,List.mem_range.2 hi,rfl⟩)
    ·cases h
   |_=>cases hp
def TV (P:Program) (t:TypeId) (d:D):Prop:=(aggT P t=some true/\∃ds,d=.agg ds/\TC P t ds)∨(aggT P t=some false/\TC P t [d])
theorem arg_of_trodB {ts:List TypeId} (hts:plainTs P ts=true) (hI:∀g,g<W.heap.size->I g) {r:Reach} {base:Nat} {t:TypeId} {v:Value} {d:DataW H} {ps:List MemPlace} (ht:t∈ts) (hv:Value.okWide P W r base t v) (h:DataW.Trod enc P W 0 spare held t v d ps):
  ∃x,TV P t x/\VR W ⟨P,λ_=>none,I⟩ x v/\x.pure=true/\Zy x<=bulkW d:=by
 obtain⟨n,hn⟩:=h
 obtain⟨ds,h1,h2,h3,h4,h5⟩:=cells_of_trod hts hI n t _ _ ht hn
 by_cases hag:aggT P t=some true
 ·have:∃cs,v=.agg cs:=by
   unfold Value.okWide at hv
   unfold aggT at hag
   cases hu:P.underlying t with
   |none=>rw[hu]at hag;cases hag
   |some u=>
    rw[hu]at hv hag
    cases u <;> first | (cases hag;done) | (obtain⟨cs,h,-⟩:=hv;exact⟨cs,h⟩)
  obtain⟨cs,rfl⟩:=this
  have:=VR.agg_of h2
  exact⟨.agg ds,.inl ⟨hag,ds,rfl,h1⟩,by simpa [Value.cells] using this,by rw[D.pure];exact h3,by rw[Zy];exact h5⟩
 ·have hag':aggT P t=some false:=by
   have hp:=List.all_eq_true.1 hts t ht
   unfold aggT at hag ⊢
   cases hu:P.underlying t with
   |none=>rw[hu]at hp;cases hp
   |some u=>
    rw[hu]at hp hag
    cases u <;> first |rfl | (cases hp;done) |exact absurd rfl hag
  have one:∃d,ds=[d]:=by
   cases h1 with
   |struct ht' _ _=>rw[aggT,ht']at hag';cases hag'
   |array ht' _ _=>rw[aggT,ht']at hag';cases hag'
   |_=>exact⟨_,rfl⟩
  obtain⟨d,rfl⟩:=one
  have hone:v.cells.toList=[v]:=by
   have hl:=h2.1
   cases v with
   |agg cs=>
    exfalso
    unfold Value.okWide at hv
    unfold aggT at hag'
    have hp:=List.all_eq_true.1 hts t ht
    cases hu:P.underlying t with
    |none=>rw[hu]at hp;cases hp
    |some u=>
     rw[hu]at hp hv hag'
     cases u <;> first | (cases hp;done) | (cases hag';done) |skip
     all_goals simp[Cell.okWide,Cell.ok,hu]at hv
   |_=>rfl
  rw[hone]at h2
  exact⟨d,.inr ⟨hag',h1⟩,h2.head,by rw[Yp,Kv]at h3;exact h3.1,by simpa [Yn] using h5⟩
inductive TVs (P:Program):List TypeId->List D->Prop where
 |nil:TVs P [] []
 |cons {t:TypeId} {ts:List TypeId} {d:D} {ds:List D} (h:TV P t d) (hs:TVs P ts ds):TVs P (t::ts) (d::ds)
theorem args_of_trodB {ts:List TypeId} (hts:plainTs P ts=true) (hI:∀g,g<W.heap.size->I g) {r:Reach} {base:Nat}:∀ {us:List TypeId} {vs:List Value} {ds:List (DataW H)} {ps:List MemPlace},(∀t∈us,t∈ts)->(∀(j:Nat) t v,us[j]?=some t->vs[j]?=some v->Value.okWide P W r base t v)->DataW.TrodAll enc P W 0 spare held us vs ds ps->
  ∃xs,TVs P us xs/\VRs W ⟨P,λ_=>none,I⟩ xs vs/\Yp xs=true/\Yn xs<=bulkWs ds
 | [],[],[],_,_,_,_=>⟨[],.nil,VRs.nil,rfl,Uk _⟩
 |t::us,v::vs,d::ds,ps,hus,hv,⟨p,q,h1,h2,e⟩=>by
  obtain⟨x,a1,a2,a3,a4⟩:=arg_of_trodB hts hI (hus t (List.mem_cons.2 (.inl rfl))) (hv 0 t v rfl rfl) h1
  obtain⟨xs,b1,b2,b3,b4⟩:=args_of_trodB hts hI (us:=us) (vs:=vs) (λt h=>hus t (List.mem_cons.2 (.inr h))) (λj t v h k=>hv (j+1) t v (by simpa using h) (by simpa using k)) h2
  exact⟨x::xs,.cons a1 b1,VRs.cons a2 b2,by rw[Yp,a3,b3];rfl,by simp only[Yn,bulkWs];omega⟩
theorem stay_all (hl:laidOutB P=true) {W':World} (hb:Below W.heap.size W W'):∀ {us:List TypeId} {vs:List Value} {ds:List (DataW H)} {ps:List MemPlace},us.all (λt=>P.readableRec t && decide (t<P.types.size))=true->DataW.TrodAll enc P W 0 (λ_=>true) true us vs ds ps->(∀x∈ps,x.block<W.heap.size)->
  DataW.TrodAll enc P W' 0 (λb=>decide (b<W.heap.size)) true us vs ds ps
 | [],[],[],_,_,h,_=>h
 |t::us,v::vs,d::ds,ps,hr,⟨p,q,h1,h2,e⟩,hlt=>by
  rw[List.all_cons,Kv,Kv,Up]at hr
  subst e
  exact⟨p,q,Below.trod hl hr.1.1 hr.1.2 h1 hb (λx hx=>hlt x (List.mem_append_left _ hx)),stay_all hl hb hr.2 h2 (λx hx=>hlt x (List.mem_append_right _ hx)),rfl⟩
end
end Go.Proofs.YtaklebjoenophaaGreat.Dm
