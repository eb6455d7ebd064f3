/-
  The machine's copy onto a slice of known capacity, where the row may grow.
-/
import Derived.Test.YtaklebjoenophaaGreatDmP
import Derived.Laws.Externs
import GoSem.Extern.SlicesOverlaps
import GoSem.Extern.MapsClone
import Derived.Lib.Bytealg
set_option linter.unusedSimpArgs false
set_option linter.unusedVariables false
namespace Go.Proofs.YtaklebjoenophaaGreat.Dm
open Go Go.RowKit
section
variable {P : Program} {W : World} {C : Cx} {S : List Ob}
theorem head_spec (hs:SR W C S) {sz n m:Nat} {x:D} {v:Value} {es:List (List D)} (hx:VR W C x v) (hm:lenS x=some m) (h:headOf S sz n x=some es):
  ∃a cap vs,v=.slice a m cap/\es.length=n/\FL W C sz es vs/\(0<n->∃g b,a=some ⟨g,b,none⟩/\∀j u,vs[j]?=some u->W.cell? ⟨g,b+j,none⟩=some u):=by
 have gen:∀ {x:D} {es0:List (List D)},VR W C x v->lenS x=some m->srcOf S sz x=some es0->n<=es0.length->es0.take n=es->
   ∃a cap vs,v=.slice a m cap/\es.length=n/\FL W C sz es vs/\(0<n->∃g b,a=some ⟨g,b,none⟩/\∀j u,vs[j]?=some u->W.cell? ⟨g,b+j,none⟩=some u):=by
  intro x es0 hx hm hsrc hn he
  obtain⟨a,cap,vs,hv,-,hf,hc⟩:=src_spec hs hx hsrc
  have hmm:es0.length=m:=by
   subst hv
   generalize es0.length=q at hx
   cases hx <;> simp_all[lenS]
  have:=hf.dropTake 0 n (by omega)
  simp only[List.drop_zero,Nat.zero_mul]at this
  subst he
  refine⟨a,cap,vs.take (n*sz),by rw[hv,hmm],by simp;omega,this,λh0=>?_⟩
  obtain⟨g,b,ha,hj⟩:=hc (by omega)
  refine⟨g,b,ha,λj u hu=>hj j u ?_⟩
  rw[List.getElem?_take]at hu
  split at hu
  ·exact hu
  ·cases hu
 unfold headOf at h
 split at h
 ·rename_i k i len cap
  split at h
  ·rename_i z es0 hk
   split at h
   ·rename_i hc
    obtain⟨rfl,hn,hl⟩:=hc
    cases h
    cases hx with
    |osc hr hl' hcc=>
     rename_i g sz' tot T
     obtain⟨⟨rfl,-⟩,-,-⟩:=hs.at hk (by simp) hr
     have hos:VR W C (.os k i n false) (.slice (some ⟨g,i*z,none⟩) n cap):=.os hr (by omega) (λe=>by cases e) (λ_=>hcc) (by omega)
     have hsrc:srcOf S z (.os k i n false)=some ((es0.drop i).take n):=by
      simp only[srcOf,hk]
      rw[if_pos ⟨trivial,hl⟩]
     obtain⟨a,ca,vs,hv,-,hf,hc⟩:=src_spec hs hos hsrc
     have hlen:((es0.drop i).take n).length=n:=by simp;omega
     rw[hlen]at hv hc
     cases hv
     simp only[lenS,Zf]at hm
     subst hm
     exact⟨_,_,vs,rfl,hlen,hf,hc⟩
   ·cases h
  ·cases h
 ·split at h
  ·rename_i es0 hsrc
   split at h
   ·rename_i hn
    cases h
    exact gen hx hm hsrc hn rfl
   ·cases h
  ·cases h
theorem run_dCopyC (hs:SR W C S) {ts:Array TypeId} {t ty:TypeId} (hts:ts[0]?=some t) {k i len cap:Nat} {s d:D} {vd vs:Value} {S':List Ob} (hd:VR W C (.osc k i len cap) vd) (hv:VR W C s vs) (h:dCopyC P S t k i len s=some (d,S')):
  ∃r W',(Builtin.copy_ ts ty #[vd,vs]).run P W=.ok r W'/\VR W' C d r/\SR W' C S'/\Fr W C S W' C S':=by
 unfold dCopyC at h
 split at h
 ·rename_i e he
  have hu:=elem_underlying he
  split at h
  ·rename_i sz hsz
   split at h
   ·rename_i m hm
    split at h
    ·rename_i src hsrc
     split at h
     ·rename_i z es hk
      split at h
      ·rename_i hcond
       obtain⟨rfl,hil⟩:=hcond
       cases h
       cases hd with
       |osc hr hl hcc=>
       rename_i g sz' tot T
       obtain⟨⟨rfl,h2,h3,cur,h4,h5,h6⟩,hnI,hlt⟩:=hs.at hk (by simp) hr
       obtain⟨a,ca,vn,rfl,hnl,hFn,han⟩:=head_spec hs hv hm hsrc
       obtain⟨n,hn⟩:∃n,n=min m len:=⟨_,rfl⟩
       have hnle:n<=len:=by omega
       rw[<-hn]at hnl han ⊢
       have hvl:vn.length=n*z:=by rw[hFn.len,hnl]
       have hload:(Builtin.firstCells z (Nat.min m len) (.slice a m ca)).run P W=.ok vn.toArray W:=by
        rw[show Nat.min m len=n from hn.symm]
        cases ha:a with
        |none=>
         have h0:n=0:=by
          rcases Nat.eq_zero_or_pos n with h0 |h0
          ·exact h0
          ·obtain⟨g',o',e',-⟩:=han h0
           rw[ha]at e';cases e'
         have:vn=[]:=Yp (by rw[hvl,h0];simp)
         rw[this,h0]
         simp[Builtin.firstCells]
        |some a'=>
         have:=run_loadCells_list (P:=P) W a' vn (λj u hu=>by
          have hpos:0<n:=by
           rcases Nat.eq_zero_or_pos n with h0 |h0
           ·have:vn.length=0:=by rw[hvl,h0];simp
            rw[Yp this]at hu;cases hu
           ·exact h0
          obtain⟨g',o',e',hc'⟩:=han hpos
          rw[ha]at e';cases e'
          rw[add_addr];exact hc' j u hu)
         rw[hvl]at this
         exact this
       have hroom:(i+n)*z<=tot:=by rw[<-hcc];exact Zj _ (by omega)
       have hfit:i*z+vn.length<=cur.size:=by
        rw[hvl,h5,<-Nat.add_mul]
        exact hroom
       have hone:∀u∈vn,u.oneCell'=true:=by
        rcases Nat.eq_zero_or_pos z with hz |hz
        ·subst hz;intro u hu;have h0:vn.length=0:=by rw[hvl];simp
         rw[Yp h0]at hu;cases hu
        ·exact hFn.ones hz
       have hst:=run_storeCells_at P g (i*z) T vn 0 cur W h4 (by simpa using hfit) hone
       simp only[Nat.add_zero]at hst
       have hput:=hs.put (ob':=.row z (es.take i++src++es.drop (i+n))) (W':=W.setRow g (cur.toList.take (i*z)++vn++cur.toList.drop (i*z+vn.length)).toArray) hk (by simp) hr rfl rfl rfl (setRow_size _ _ _) (λb hb=>setRow_other W g b _ hb) (λhm=>by
        have hes:∀p (e':List D),(es.take i++src++es.drop (i+n))[p]?=some e'->if p<i then es[p]?=some e' else if p<i+n then src[p-i]?=some e' else es[p]?=some e':=by
         intro p e' he'
         by_cases q1:p<i
         ·rw[if_pos q1]
          rw[Zp,Zc (by simp;omega),List.getElem?_take,if_pos q1]at he'
          exact he'
         ·rw[if_neg q1]
          rw[Zp,Zq (by simp;omega)]at he'
          have ht:(es.take i).length=i:=by simp;omega
          rw[ht]at he'
          by_cases q2:p<i+n
          ·rw[if_pos q2]
           rw[Zc (by omega)]at he'
           exact he'
          ·rw[if_neg q2]
           rw[Zq (by omega),List.getElem?_drop,hnl]at he'
           rw[<-he'];congr 1;omega
        have hlenE:(es.take i++src++es.drop (i+n)).length*z<=tot:=by
         have:(es.take i++src++es.drop (i+n)).length<=max es.length (i+n):=by simp[hnl];omega
         refine Zu (Zj _ this) ?_
         rcases Nat.le_total es.length (i+n) with q |q
         ·rw[Nat.max_eq_right q];exact hroom
         ·rw[Nat.max_eq_left q];exact h2
        refine⟨rfl,hlenE,λp e' he'=>?_,_,setRow_heap W g cur _ T _ h4,?_,λp j e' c he' hc'=>?_⟩
        ·have:=hes p e' he'
         split at this
         ·exact h3 _ _ this
         ·split at this
          ·exact hFn.el _ _ this
          ·exact h3 _ _ this
        ·simp only[List.size_toArray,Yd,Zo,Array.length_toList]
         rw[Zn (l:=cur.toList)]
         simp only[Array.length_toList]
         omega
        ·suffices hh:∃v',(cur.toList.take (i*z)++vn++cur.toList.drop (i*z+vn.length))[p*z+j]?=some v'/\VR W C c v'/\c.one=true by
          obtain⟨v',q1,q2,q3⟩:=hh
          exact⟨v',by simpa only[Yk] using q1,hm _ _ q2,q3⟩
         rw[splice_get (by simpa using hfit),hvl,<-Nat.add_mul]
         have hE:=hes p e' he'
         split at hE
         ·rename_i q
          obtain⟨u,hu',hr',ho'⟩:=h6 _ _ _ _ hE hc'
          have hj:j<z:=by rw[<-h3 _ _ hE];exact (Ya.1 hc').1
          exact⟨u,by rw[if_pos (lt_rows q hj)];simpa using hu',hr',ho'⟩
         ·rename_i q
          split at hE
          ·rename_i q2
           obtain⟨u,hu',hr'⟩:=hFn.val _ _ _ _ hE hc'
           have hj:j<z:=by rw[<-hFn.el _ _ hE];exact (Ya.1 hc').1
           have e1:p*z=i*z+(p-i)*z:=by rw[<-Nat.add_mul];congr 1;omega
           refine⟨u,?_,hr',hFn.one _ _ _ _ hE hc'⟩
           rw[if_neg (by rw[e1];omega),if_pos (lt_rows q2 hj),e1]
           rw[show i*z+(p-i)*z+j-i*z=(p-i)*z+j by omega]
           exact hu'
          ·rename_i q2
           obtain⟨u,hu',hr',ho'⟩:=h6 _ _ _ _ hE hc'
           have e1:(i+n)*z<=p*z:=Zj _ (by omega)
           have e2:i*z<=(i+n)*z:=Zj _ (by omega)
           exact⟨u,by rw[if_neg (by omega),if_neg (by omega)];simpa using hu',hr',ho'⟩)
       refine⟨goInt (Nat.min m len),_,?_,by rw[show Nat.min m len=n from hn.symm];exact .int _ _,hput.1,hput.2⟩
       simp only[Builtin.copy_,hts,Sem.run_bind,run_underlying hu,Result.andThen_ok,Builtin.lenOf,Sem.run_pure,run_size hsz,hload,hst,Yk,Yl,Yh]
      ·cases h
     ·cases h
    ·cases h
   ·cases h
  ·cases h
 ·cases h
theorem run_dCopyA (hs:SR W C S) {ts:Array TypeId} {t ty:TypeId} (hts:ts[0]?=some t) {dd s d:D} {vd vs:Value} {S':List Ob} (hd:VR W C dd vd) (hv:VR W C s vs) (h:dCopyA P S t dd s=some (d,S')):
  ∃r W',(Builtin.copy_ ts ty #[vd,vs]).run P W=.ok r W'/\VR W' C d r/\SR W' C S'/\Fr W C S W' C S':=by
 unfold dCopyA at h
 split at h
 ·exact run_dCopyC hs hts hd hv h
 ·cases hv with
  |osc hr hl hc=>exact run_dCopy hs hts hd (.os hr hl (λe=>by cases e) (λ_=>hc) (by omega)) h
 ·exact run_dCopy hs hts hd hv h
theorem run_lay (hs:SR W C S) {k i z:Nat} {es src:List (List D)} {vn:List Value} (hk:S[k]?=some (.row z es)) (hil:i+src.length<=es.length) {g sz' tot:Nat} {T:TypeId} (hr:C.R k=some (g,sz',tot,T)) (hFn:FL W C z src vn):
  ∃W',(storeCells ⟨g,i*z,none⟩ vn).run P W=.ok () W'/\SR W' C (S.set k (.row z (es.take i++src++es.drop (i+src.length))))/\Fr W C S W' C (S.set k (.row z (es.take i++src++es.drop (i+src.length)))):=by
 obtain⟨⟨rfl,h2,h3,cur,h4,h5,h6⟩,hnI,hlt⟩:=hs.at hk (by simp) hr
 have hfit:i*z+vn.length<=cur.size:=by
  rw[hFn.len,h5,<-Nat.add_mul]
  exact Zu (Zj _ (by omega)) h2
 have hone:∀u∈vn,u.oneCell'=true:=by
  rcases Nat.eq_zero_or_pos z with hz |hz
  ·subst hz
   intro u hu
   have:vn.length=0:=by rw[hFn.len];simp
   rw[Yp this]at hu
   cases hu
  ·exact hFn.ones hz
 have hst:=run_storeCells_at P g (i*z) T vn 0 cur W h4 (by simpa using hfit) hone
 simp only[Nat.add_zero]at hst
 have hput:=hs.put (ob':=.row z (es.take i++src++es.drop (i+src.length))) (W':=W.setRow g (cur.toList.take (i*z)++vn++cur.toList.drop (i*z+vn.length)).toArray) hk (by simp) hr rfl rfl rfl (setRow_size _ _ _) (λb hb=>setRow_other W g b _ hb) (λhm=>by
  have hes:∀p (e':List D),(es.take i++src++es.drop (i+src.length))[p]?=some e'->if p<i then es[p]?=some e' else if p<i+src.length then src[p-i]?=some e' else es[p]?=some e':=by
   intro p e' he'
   have:=splice_get (L:=es) (vs:=src) (a:=i) (by omega) p
   rw[this]at he'
   by_cases q1:p<i
   ·rw[if_pos q1]at he' ⊢;exact he'
   ·rw[if_neg q1]at he' ⊢
    by_cases q2:p<i+src.length
    ·rw[if_pos q2]at he' ⊢;exact he'
    ·rw[if_neg q2]at he' ⊢;exact he'
  have hlenE:(es.take i++src++es.drop (i+src.length)).length=es.length:=by simp;omega
  refine⟨rfl,by rw[hlenE];exact h2,λp e' he'=>?_,_,setRow_heap W g cur _ T _ h4,?_,λp j e' c he' hc'=>?_⟩
  ·have:=hes p e' he'
   split at this
   ·exact h3 _ _ this
   ·split at this
    ·exact hFn.el _ _ this
    ·exact h3 _ _ this
  ·simp only[List.size_toArray,Yd,Zo,Array.length_toList]
   rw[Zn (l:=cur.toList)]
   simp only[Array.length_toList]
   omega
  ·suffices hh:∃v',(cur.toList.take (i*z)++vn++cur.toList.drop (i*z+vn.length))[p*z+j]?=some v'/\VR W C c v'/\c.one=true by
    obtain⟨v',q1,q2,q3⟩:=hh
    exact⟨v',by simpa only[Yk] using q1,hm _ _ q2,q3⟩
   rw[splice_get (by simpa using hfit),hFn.len,<-Nat.add_mul]
   have hE:=hes p e' he'
   split at hE
   ·rename_i q
    obtain⟨u,hu',hr',ho'⟩:=h6 _ _ _ _ hE hc'
    have hj:j<z:=by rw[<-h3 _ _ hE];exact (Ya.1 hc').1
    exact⟨u,by rw[if_pos (lt_rows q hj)];simpa using hu',hr',ho'⟩
   ·rename_i q
    split at hE
    ·rename_i q2
     obtain⟨u,hu',hr'⟩:=hFn.val _ _ _ _ hE hc'
     have hj:j<z:=by rw[<-hFn.el _ _ hE];exact (Ya.1 hc').1
     have e1:p*z=i*z+(p-i)*z:=by rw[<-Nat.add_mul];congr 1;omega
     refine⟨u,?_,hr',hFn.one _ _ _ _ hE hc'⟩
     rw[if_neg (by rw[e1];omega),if_pos (lt_rows q2 hj),e1]
     rw[show i*z+(p-i)*z+j-i*z=(p-i)*z+j by omega]
     exact hu'
    ·rename_i q2
     obtain⟨u,hu',hr',ho'⟩:=h6 _ _ _ _ hE hc'
     have e1:(i+src.length)*z<=p*z:=Zj _ (by omega)
     have e2:i*z<=(i+src.length)*z:=Zj _ (by omega)
     exact⟨u,by rw[if_neg (by omega),if_neg (by omega)];simpa using hu',hr',ho'⟩)
 exact⟨_,hst,hput.1,hput.2⟩
theorem run_dClear (hs:SR W C S) {ts:Array TypeId} {t ty:TypeId} (hts:ts[0]?=some t) {x:D} {vx:Value} {S':List Ob} (hx:VR W C x vx) (h:dClear P S t x=some S'):
  ∃W',(Builtin.clear_ ts ty #[vx]).run P W=.ok (.tuple #[]) W'/\SR W' C S'/\Fr W C S W' C S':=by
 unfold dClear at h
 split at h
 case h_2=>cases h
 rename_i e he
 have hu:=elem_underlying he
 split at h
 case h_2=>cases h
 rename_i n z hsz hz
 obtain⟨zv,hzr,⟨ii,hi,hiz⟩,hzv⟩:=run_zero hz
 have hzc:=(fromVal_vr (W:=W) (C:=C) hzv).cells (fromVal_def hzv)
 split at h
 case isFalse=>cases h
 rename_i hzl
 split at h
 case h_2=>cases h
 rename_i k i len b
 split at h
 case h_2=>cases h
 rename_i sz es hk
 split at h
 case isFalse=>cases h
 rename_i hc
 obtain⟨rfl,hlen,hil⟩:=hc
 cases h
 obtain⟨g,sz',tot,cap,T,rfl,hr,hl,hxx,hx',hx''⟩:=hx.of_os
 obtain⟨⟨rfl,-⟩,-,-⟩:=hs.at hk (by simp) hr
 have hfz:=zeros_fl hzc hzl.2 len
 rw[hzl.1]at hfz
 have hrl:(List.replicate len z.cells).length=len:=List.length_replicate
 obtain⟨W',hst,h1,h2⟩:=run_lay (P:=P) hs (i:=i) hk (by rw[hrl];exact hil) hr hfz
 rw[hrl]at h1 h2
 refine⟨W',?_,h1,h2⟩
 obtain⟨len,rfl⟩:∃m,len=m+1:=⟨len-1,by omega⟩
 simp only[Builtin.clear_,hts,Sem.run_bind,run_underlying hu,Result.andThen_ok,hzr,hst,Sem.run_pure,Yk,Yl]
def dCount (args:List D):Option D:=
 match args with
 | [.str s,.int .u8 c]=>some (.int .i64 (s.data.toList.count c.toNat.toUInt8:Nat))
 |_=>none
def dIndexB (args:List D):Option D:=
 match args with
 | [.str s,.int .u8 c]=>some (.int .i64 (Lib.indexByte s.data.toList c.toNat.toUInt8))
 |_=>none
end
end Go.Proofs.YtaklebjoenophaaGreat.Dm
