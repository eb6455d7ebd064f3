/-
  The machine's append, copy, len, min and max: each is what the model does.
  The machine's append of zeros onto a slice of known capacity, where there is no room.
-/
import Derived.Test.YtaklebjoenophaaGreatDmO
import Derived.Laws.AppendOwn
import Derived.Lib.AppendZerosOnto
set_option maxHeartbeats 64000000
set_option maxRecDepth 100000
set_option linter.unusedSimpArgs false
set_option linter.unusedVariables false
namespace Go.Proofs.YtaklebjoenophaaGreat.Dm
open Go Go.RowKit
structure FL (W:World) (C:Cx) (sz:Nat) (es:List (List D)) (vs:List Value):Prop where
 el:∀(i:Nat) (e:List D),es[i]?=some e->e.length=sz
 len:vs.length=es.length*sz
 one:∀(i j:Nat) (e:List D) (c:D),es[i]?=some e->e[j]?=some c->c.one=true
 val:∀(i j:Nat) (e:List D) (c:D),es[i]?=some e->e[j]?=some c->∃u,vs[i*sz+j]?=some u/\VR W C c u
section
variable {P : Program} {W : World} {C : Cx} {S : List Ob}
theorem FL.mono {W':World} {C':Cx} {sz:Nat} {es:List (List D)} {vs:List Value} (h:FL W C sz es vs) (hm:∀d v,VR W C d v->VR W' C' d v):FL W' C' sz es vs:=
 ⟨h.el,h.len,h.one,λi j e c he hc=>by obtain⟨u,hu,hr⟩:=h.val i j e c he hc;exact⟨u,hu,hm _ _ hr⟩⟩
theorem FL.append {sz:Nat} {a b:List (List D)} {va vb:List Value} (h:FL W C sz a va) (k:FL W C sz b vb):FL W C sz (a++b) (va++vb):=by
 have sp:∀ {i:Nat} {e:List D},(a++b)[i]?=some e->(i<a.length/\a[i]?=some e)∨(a.length<=i/\b[i-a.length]?=some e):=by
  intro i e he
  rcases Nat.lt_or_ge i a.length with hi |hi
  ·rw[Ut hi]at he;exact .inl ⟨hi,he⟩
  ·rw[Vh hi]at he;exact .inr ⟨hi,he⟩
 refine⟨λi e he=>?_,by rw[Ku,Ku,h.len,k.len,Nat.add_mul],λi j e c he hc=>?_,λi j e c he hc=>?_⟩
 ·rcases sp he with ⟨-,he⟩ | ⟨-,he⟩
  ·exact h.el _ _ he
  ·exact k.el _ _ he
 ·rcases sp he with ⟨-,he⟩ | ⟨-,he⟩
  ·exact h.one _ _ _ _ he hc
  ·exact k.one _ _ _ _ he hc
 ·rcases sp he with ⟨hi,he⟩ | ⟨hi,he⟩
  ·obtain⟨u,hu,hr⟩:=h.val _ _ _ _ he hc
   have hj:j<sz:=by rw[<-h.el _ _ he];exact (Kr.1 hc).1
   exact⟨u,by rw[Ut (by rw[h.len];exact Jt hi hj)];exact hu,hr⟩
  ·obtain⟨u,hu,hr⟩:=k.val _ _ _ _ he hc
   have e1:i*sz=a.length*sz+(i-a.length)*sz:=by rw[<-Nat.add_mul];congr 1;omega
   refine⟨u,?_,hr⟩
   rw[Vh (by rw[h.len,e1];omega),h.len,e1]
   rw[show a.length*sz+(i-a.length)*sz+j-a.length*sz=(i-a.length)*sz+j by omega]
   exact hu
theorem FL.dropTake {sz:Nat} {es:List (List D)} {vs:List Value} (h:FL W C sz es vs) (k n:Nat) (hk:k+n<=es.length):FL W C sz ((es.drop k).take n) ((vs.drop (k*sz)).take (n*sz)):=by
 have sp:∀ {i:Nat} {e:List D},((es.drop k).take n)[i]?=some e->i<n/\es[k+i]?=some e:=by
  intro i e he
  rw[List.getElem?_take]at he
  split at he
  ·exact⟨by assumption,by simpa using he⟩
  ·cases he
 refine⟨λi e he=>h.el _ _ (sp he).2,?_,λi j e c he hc=>h.one _ _ _ _ (sp he).2 hc,λi j e c he hc=>?_⟩
 ·have a1:min n (es.length-k)=n:=by omega
  have a2:n*sz<=es.length*sz-k*sz:=by rw[<-Nat.sub_mul];exact Va _ (by omega)
  simp only[Ve,Vf,h.len,a1];omega
 ·obtain⟨hi,he'⟩:=sp he
  obtain⟨u,hu,hr⟩:=h.val _ _ _ _ he' hc
  have hj:j<sz:=by rw[<-h.el _ _ he'];exact (Kr.1 hc).1
  refine⟨u,?_,hr⟩
  rw[List.getElem?_take,if_pos (Jt hi hj),List.getElem?_drop]
  rw[Nat.add_mul]at hu
  rw[<-hu];congr 1;omega
theorem FL.ones {sz:Nat} {es:List (List D)} {vs:List Value} (h:FL W C sz es vs) (hpos:0<sz):∀v∈vs,v.oneCell'=true:=by
 intro v hv
 obtain⟨p,hp⟩:=Vv.1 hv
 have hpl:p<es.length*sz:=by rw[<-h.len];exact (Kr.1 hp).1
 have hi:p / sz<es.length:=(Nat.div_lt_iff_lt_mul hpos).2 hpl
 have hj:p % sz<sz:=Nat.mod_lt _ hpos
 have he:es[p / sz]?=some es[p / sz]:=Uh hi
 have hl:=h.el _ _ he
 have hc:(es[p / sz])[p % sz]?=some ((es[p / sz])[p % sz]'(by omega)):=Uh (by omega)
 obtain⟨u,hu,hr⟩:=h.val _ _ _ _ he hc
 have:p / sz*sz+p % sz=p:=by rw[Nat.mul_comm];exact Nat.div_add_mod p sz
 rw[this,hp]at hu
 cases hu
 exact hr.one (h.one _ _ _ _ he hc)
theorem src_spec (hs:SR W C S) {sz:Nat} {x:D} {v:Value} {es:List (List D)} (hx:VR W C x v) (h:Jw S sz x=some es):
  ∃a cap vs,v=.slice a es.length cap/\es.length<=cap/\FL W C sz es vs/\(0<es.length->∃g b,a=some ⟨g,b,none⟩/\∀j u,vs[j]?=some u->W.cell? ⟨g,b+j,none⟩=some u):=by
 cases hx <;> try (simp[Jw]at h;done)
 case nils=>
  simp only[Jw,Uw]at h
  subst h
  exact⟨none,0,[],rfl,Uk _,⟨λi e he=>by simp at he,by simp,λi j e c he=>by simp at he,λi j e c he=>by simp at he⟩,λh=>by simp at h⟩
 case sl z es0 x' g b cap vs hp hg hcap hxx hss hcc ho hv=>
  simp only[Jw]at h
  split at h
  ·rename_i hz
   cases h
   subst hz
   refine⟨_,cap,(List.range (es.length*z)).map (λp=>vs (p / z) (p % z)),rfl,hcap,⟨hss,by simp,ho,λi j e c he hc=>?_⟩,λ_=>⟨g,b,rfl,λj u hu=>?_⟩⟩
   ·have hi:i<es.length:=(Kr.1 he).1
    have hj:j<z:=by rw[<-hss _ _ he];exact (Kr.1 hc).1
    refine⟨vs i j,?_,hv _ _ _ _ he hc⟩
    rw[Vd,List.getElem?_range (Jt hi hj)]
    have h1:(i*z+j) / z=i:=by rw[Nat.mul_comm,Nat.mul_add_div (by omega),Nat.div_eq_of_lt hj];omega
    have h2:(i*z+j) % z=j:=by rw[Nat.mul_comm,Nat.mul_add_mod,Nat.mod_eq_of_lt hj]
    simp only[Vm,h1,h2]
   ·have hj:j<es.length*z:=by
     have:=(Kr.1 hu).1
     simpa using this
    rw[Vd,List.getElem?_range hj]at hu
    simp only[Vm,Uw]at hu
    subst hu
    have hz:0<z:=by
     rcases Nat.eq_zero_or_pos z with e |e
     ·subst e;simp at hj
     ·exact e
    have:=hcc (j / z) (j % z) ((Nat.div_lt_iff_lt_mul hz).2 hj) (Nat.mod_lt _ hz)
    rw[show j / z*z+j % z=j by rw[Nat.mul_comm];exact Nat.div_add_mod j z]at this
    exact this
  ·cases h
 case sl0 z x' a cap hxx=>
  simp only[Jw]at h
  split at h
  ·cases h
   exact⟨a,cap,[],rfl,Vt _,⟨λi e he=>by simp at he,by simp,λi j e c he=>by simp at he,λi j e c he=>by simp at he⟩,λh=>by simp at h⟩
  ·cases h
 case os k i len x' g z tot cap T hr hl hxx hx' hx''=>
  simp only[Jw]at h
  split at h
  ·rename_i z' rs hk
   split at h
   ·rename_i hc
    cases h
    obtain⟨rfl,hil⟩:=hc
    obtain⟨⟨rfl,h2,h3,vs,h4,h5,h6⟩,-,-⟩:=hs.at hk (by simp) hr
    have hFL:FL W C z' rs (vs.toList.take (rs.length*z')):=by
     have hvl:vs.toList.length=tot:=by simpa using h5
     refine⟨h3,by rw[Ve,hvl];exact Nat.min_eq_left h2,λi j e c he hc=>(h6 i j e c he hc).choose_spec.2.2,λi j e c he hc=>?_⟩
     obtain⟨u,hu,hr',-⟩:=h6 i j e c he hc
     have hi:i<rs.length:=(Kr.1 he).1
     have hj:j<z':=by rw[<-h3 _ _ he];exact (Kr.1 hc).1
     exact⟨u,by rw[List.getElem?_take,if_pos (Jt hi hj)];simpa using hu,hr'⟩
    have hlen:((rs.drop i).take len).length=len:=by simp;omega
    refine⟨some ⟨g,i*z',none⟩,cap,_,by rw[hlen],by rw[hlen];exact hl,hFL.dropTake i len hil,λ_=>⟨g,i*z',rfl,λj u hu=>?_⟩⟩
    rw[List.getElem?_take]at hu
    split at hu
    ·rw[List.getElem?_drop,List.getElem?_take]at hu
     split at hu
     ·rw[cell_of_row W g _ vs T (0,0) h4];simpa using hu
     ·cases hu
    ·cases hu
   ·cases h
  ·cases h
theorem VR.of_nils {v:Value} (h:VR W C .nils v):v=.slice none 0 0:=by cases h;rfl
theorem VR.of_sl_cap {sz:Nat} {es:List (List D)} {a:Option Addr} {n cap:Nat} (h:VR W C (.sl sz es true) (.slice a n cap)):cap=es.length:=by
 generalize hv:Value.slice a n cap=v at h
 cases h with
 |sl _ _ _ _ hxx=>cases hv;exact hxx rfl
 |sl0 hxx=>cases hv;exact hxx rfl
theorem VR.of_os {k i len:Nat} {x:Bool} {v:Value} (h:VR W C (.os k i len x) v):∃g sz tot cap T,v=.slice (some ⟨g,i*sz,none⟩) len cap/\C.R k=some (g,sz,tot,T)/\len<=cap/\(x=true->cap=len)/\(x=false->(i+cap)*sz=tot)/\(i+cap)*sz<=tot:=by
 cases h with
 |os hr hl hx hx' hx''=>exact⟨_,_,_,_,_,rfl,hr,hl,hx,hx',hx''⟩
theorem run_append_none {t ty e:TypeId} {n:Nat} (hu:P.underlying t=some (.slice e)) (hz:Yw P e=some n) (a:Option Addr) (len cap:Nat) (hc:len<=cap) (b:Option Addr) (c:Nat):
  (Builtin.append_ #[t,t] ty #[.slice a len cap,.slice b 0 c]).run P W=.ok (.slice a len cap) W:=by
 have hf:(Builtin.firstCells n 0 (.slice b 0 c)).run P W=.ok #[] W:=by
  cases b <;> simp[Builtin.firstCells,loadCells,loadCellsFrom]
 cases a with
 |none=>simp[Builtin.append_,run_underlying hu,Jg hz,Builtin.lenOf,hc,hf]
 |some a=>simp[Builtin.append_,run_underlying hu,Jg hz,Builtin.lenOf,hc,hf,storeCells]
theorem run_append_room' {t ty e:TypeId} {n:Nat} {T:TypeId} (hu:P.underlying t=some (.slice e)) (hz:Yw P e=some n) {g sLen sCap:Nat} {cur:Array Value} (hg:W.heap[g]?=some (.cells cur T (0,0)))
  {a:Addr} {m c:Nat} {news:List Value} (hl:news.length=m*n) (hnews:∀j u,news[j]?=some u->W.cell? (a.add j)=some u) (h1:∀u∈news,u.oneCell'=true) (hroom:sLen+m<=sCap) (hfit:sLen*n+news.length<=cur.size):
  (Builtin.append_ #[t,t] ty #[.slice (some ⟨g,0,none⟩) sLen sCap,.slice (some a) m c]).run P W=
   .ok (.slice (some ⟨g,0,none⟩) (sLen+m) sCap) (W.setRow g (cur.toList.take (sLen*n)++news++cur.toList.drop (sLen*n+news.length)).toArray):=by
 have hf:=run_firstCells_some (P:=P) W n m a m c news hl hnews
 have hst:=run_storeCells_at P g (sLen*n) T news 0 cur W hg (by simpa using hfit) h1
 simp only[Nat.add_zero]at hst
 simp[Builtin.append_,run_underlying hu,Jg hz,Builtin.lenOf,hroom,hf,Jm,hst]
theorem push_row (hs:SR W C S) {sz:Nat} {es:List (List D)} {vs:List Value} (hf:FL W C sz es vs) (z:Array Value) (hz:z.size=sz) (cap:Nat) (hc:es.length<=cap) (e:TypeId) (W1:World) (hW:W1=W.drew) (cells:Array Value) (hcells:cells.toList=vs++(Builtin.zeroCells z (cap-es.length)).toList):
  ∃C',SR (W1.alloc (.cells cells e)) C' (S++[.row sz es])/\Fr W C S (W1.alloc (.cells cells e)) C' (S++[.row sz es])/\VR (W1.alloc (.cells cells e)) C' (.os S.length 0 es.length false) (.slice (some ⟨W.heap.size,0,none⟩) es.length cap):=by
 subst hW
 have hsize:cells.size=cap*sz:=by
  have:cells.toList.length=cap*sz:=by
   have hzc:(Builtin.zeroCells z (cap-es.length)).toList.length=(cap-es.length)*sz:=by simp[size_zeroCells,hz]
   rw[hcells,Ku,hf.len,hzc,<-Nat.add_mul]
   congr 1;omega
  simpa using this
 have hp:=hs.push (W':=W.drew.alloc (.cells cells e)) (ob':=.row sz es) (g:=W.heap.size) (sz:=sz) (tot:=cap*sz) (T:=e) rfl rfl rfl (by simp) (λb hb=>Below.heap_alloc W.drew _ b hb) (Uk _) (by simp) (λhm=>by
  refine⟨rfl,Va _ hc,hf.el,cells,heap_alloc_new W.drew _,hsize,λi j e' c he hc'=>?_⟩
  obtain⟨u,hu,hr⟩:=hf.val i j e' c he hc'
  refine⟨u,?_,hm _ _ hr,hf.one _ _ _ _ he hc'⟩
  have hi:i<es.length:=(Kr.1 he).1
  have hj:j<sz:=by rw[<-hf.el _ _ he];exact (Kr.1 hc').1
  rw[<-Ul,hcells,Ut (by rw[hf.len];exact Jt hi hj)]
  exact hu)
 refine⟨_,hp.1,hp.2,?_⟩
 have:=VR.os (W:=W.drew.alloc (.cells cells e)) (C:=C.add S.length (W.heap.size,sz,cap*sz,e)) (k:=S.length) (i:=0) (len:=es.length) (x:=false) (cap:=cap) (Cx.add_same _ _ _) hc (λe=>by cases e) (λ_=>by simp) (by simp)
 simpa using this
theorem SR.kill (h:SR W C S) (k:Nat):SR W C (S.set k .dead)/\Fr W C S W C (S.set k .dead):=by
 have look:∀ {i:Nat} {o:Ob},(S.set k .dead)[i]?=some o->o≠.dead->S[i]?=some o:=by
  intro i o hi ho
  rcases Zv hi with ⟨-,rfl,-⟩ | ⟨-,hi⟩
  ·exact absurd rfl ho
  ·exact hi
 refine⟨⟨λi o hi ho=>h.ob i o (look hi ho) ho,λi x hx=>by rw[Ux];exact h.fresh i x hx,λi i' o o' x x' hi ho hi' ho'=>h.inj i i' o o' x x' (look hi ho) ho (look hi' ho') ho',h.imm⟩,⟨rfl,rfl,rfl,Uk _,λ_ _ _=>rfl,λb hb=>?_,λ_ _ h=>h,λ_ h=>h,rfl,λ_ h=>.inl h,by rw[Ux];exact Uk _,λ_ _ h=>.inl h⟩⟩
 obtain⟨i,o,s,t,T,h1,h2,h3⟩:=hb
 exact .inl ⟨i,o,s,t,T,look h1 h2,h2,h3⟩
theorem elem_underlying {t e:TypeId} (he:Ki P t=some e):P.underlying t=some (.slice e):=by
 unfold Ki at he;split at he
 ·cases he;assumption
 ·cases he
theorem run_dAppend (hs:SR W C S) {t u ty:TypeId} {s x d:D} {vs vx:Value} {S':List Ob} (hs':VR W C s vs) (hx:VR W C x vx) (h:Zb P S t u s x=some (d,S')):
  ∃r W' C',(Builtin.append_ #[t,u] ty #[vs,vx]).run P W=.ok r W'/\VR W' C' d r/\SR W' C' S'/\Fr W C S W' C' S':=by
 unfold Zb at h
 split at h
 ·rename_i htu
  subst htu
  split at h
  ·rename_i e he
   have hu:=elem_underlying he
   split at h
   ·rename_i n z hsz hz
    rw[Nat.succ_eq_add_one]at hsz
    obtain⟨zv,hzr,⟨i,hi,hiz⟩,hzv⟩:=run_zero hz
    have hzc:=(Ju (W:=W) (C:=C) hzv).cells (fromVal_def hzv)
    have his:i.size=n+1:=by
     obtain⟨i',hi',h'⟩:=info_of_size hsz
     rw[hi]at hi';cases hi';exact h'
    have hby:Kl P e=i.bytes:=by simp[Kl,hi]
    split at h
    ·rename_i hzl
     have hlz:zv.cells.size=n+1:=by have:=hzc.1;simp at this;omega
     split at h
     ·rename_i old new ho hn
      obtain⟨b,cb,vo,rfl,hcb,hfo,hbo⟩:=src_spec hs hs' ho
      obtain⟨a,ca,vn,rfl,hca,hfn,han⟩:=src_spec hs hx hn
      split at h
      ·rename_i hm
       cases h
       rw[hm]
       exact⟨_,W,C,run_append_none hu hsz _ _ _ hcb _ _,hs',hs,Fr.refl _ _ _⟩
      ·rename_i hm
       obtain⟨g,o,rfl,hcell⟩:=han (by omega)
       have hcell':∀j w,vn[j]?=some w->W.cell? ((⟨g,o,none⟩:Addr).add j)=some w:=λj w hw=>by rw[Jm];exact hcell j w hw
       split at h
       ·rename_i hbd
        rw[hby]at hbd
        have hl63:((old.length+new.length:Nat):Int)<=9223372036854775807:=by have:=hbd.1;simp only[maxLen]at this;omega
        -- a new row of what was there and what comes
        have grow:∀(b':Addr),b'.spot=none->(∀j w,vo[j]?=some w->W.cell? (b'.add j)=some w)->cb<old.length+new.length->∀S1,SR W C S1->Fr W C S W C S1->S1.length=S.length->
          ∃r W' C',(Builtin.append_ #[t,t] ty #[.slice (some b') old.length cb,.slice (some ⟨g,o,none⟩) new.length ca]).run P W=.ok r W'/\VR W' C' (.os S.length 0 (old.length+new.length) false) r/\SR W' C' (S1++[.row (n+1) (old++new)])/\Fr W C S W' C' (S1++[.row (n+1) (old++new)]):=by
         intro b' hb' hold hlt S1 hS1 hF1 hlen1
         have hrun:=run_append_grow (P:=P) W t ty e i zv hu hi hiz b' old.length cb vo (by rw[his];exact hfo.len) hold ⟨g,o,none⟩ new.length ca vn (by rw[his];exact hfn.len) hcell' hlt hl63 (growslice_fits hlt hbd.2)
         have hge:=grownCap_ge W (old.length+new.length) cb e
         obtain⟨C',h1,h2,h3⟩:=push_row hS1 (hfo.append hfn) zv.cells hlz (grownCap W (old.length+new.length) cb e) (by simpa using hge) e W.drew rfl (vo.toArray++vn.toArray++Builtin.zeroCells zv.cells (grownCap W (old.length+new.length) cb e-(old.length+new.length))) (by simp)
         refine⟨_,_,C',hrun,?_,h1,hF1.trans h2⟩
         rw[Ku,hlen1]at h3
         exact h3
        have fresh:b=none->old.length=0->cb=0->vo=[]->∀S1,SR W C S1->Fr W C S W C S1->S1.length=S.length->
          ∃r W' C',(Builtin.append_ #[t,t] ty #[.slice none 0 0,.slice (some ⟨g,o,none⟩) new.length ca]).run P W=.ok r W'/\VR W' C' (.os S.length 0 (old.length+new.length) false) r/\SR W' C' (S1++[.row (n+1) (old++new)])/\Fr W C S W' C' (S1++[.row (n+1) (old++new)]):=by
         intro hb h0 hc0 hvo S1 hS1 hF1 hlen1
         have ho0:old=[]:=Ug h0
         have hrun:=run_append_nil (P:=P) W t ty e i zv hu hi hiz ⟨g,o,none⟩ new.length ca vn (by rw[his];exact hfn.len) hcell' (by omega) (by omega) (by
          have:=hbd.2
          rw[h0,Nat.zero_add]at this
          omega)
         have hge:=grownCap_ge W new.length 0 e
         obtain⟨C',h1,h2,h3⟩:=push_row hS1 hfn zv.cells hlz (grownCap W new.length 0 e) hge e W.drew rfl (vn.toArray++Builtin.zeroCells zv.cells (grownCap W new.length 0 e-new.length)) (by simp)
         rw[ho0]
         refine⟨_,_,C',hrun,?_,by simpa using h1,by simpa using hF1.trans h2⟩
         rw[hlen1]at h3
         simpa using h3
        split at h
        ·cases h
         have hE:=hs'.of_nils
         simp only[Jw,Uw]at ho
         subst ho
         cases hE
         have hvo:vo=[]:=Ug (by simpa using hfo.len)
         simpa using fresh rfl rfl rfl hvo S hs (Fr.refl _ _ _) rfl
        ·rename_i sz0 es0
         cases h
         have hold:old=es0:=by
          simp only[Jw]at ho
          split at ho
          ·cases ho;rfl
          ·cases ho
         subst hold
         have hvo0:old.length=0->vo=[]:=λh0=>Ug (by rw[hfo.len,h0];simp)
         have hcb':cb=old.length:=hs'.of_sl_cap
         cases hb:b with
         |none=>
          have h0:old.length=0:=by
           rcases Nat.eq_zero_or_pos old.length with h0 |h0
           ·exact h0
           ·obtain⟨g',o',e',-⟩:=hbo h0
            rw[hb]at e';cases e'
          rw[hb]at fresh
          have:=fresh rfl h0 (by omega) (hvo0 h0) S hs (Fr.refl _ _ _) rfl
          rw[hcb',h0] at*
          simpa using this
         |some b'=>
          by_cases h0:old.length=0
          ·have hv:=hvo0 h0
           have hrun:=run_append_grow (P:=P) W t ty e i zv hu hi hiz b' old.length cb vo (by rw[his];exact hfo.len) (λj w hw=>by rw[hv]at hw;simp at hw) ⟨g,o,none⟩ new.length ca vn (by rw[his];exact hfn.len) hcell' (by omega) hl63 (growslice_fits (by omega) hbd.2)
           have hge:=grownCap_ge W (old.length+new.length) cb e
           obtain⟨C',h1,h2,h3⟩:=push_row hs (hfo.append hfn) zv.cells hlz (grownCap W (old.length+new.length) cb e) (by simpa using hge) e W.drew rfl (vo.toArray++vn.toArray++Builtin.zeroCells zv.cells (grownCap W (old.length+new.length) cb e-(old.length+new.length))) (by simp)
           rw[Ku]at h3
           exact⟨_,_,C',hrun,h3,h1,h2⟩
          ·obtain⟨g',o',e',hc'⟩:=hbo (by omega)
           rw[hb]at e';cases e'
           exact grow _ rfl (λj w hw=>by rw[Jm];exact hc' j w hw) (by omega) S hs (Fr.refl _ _ _) rfl
        ·rename_i k0 i0 len0
         cases h
         obtain⟨g',sz',tot,cap',T,hE,hr,hl,hxx,hx',hx''⟩:=hs'.of_os
         injection hE with hE1 hE2 hE3
         subst hE1;subst hE2;subst hE3
         ·have hcb':=hxx rfl
          have hold:∀j w,vo[j]?=some w->W.cell? ((⟨g',i0*sz',none⟩:Addr).add j)=some w:=by
           intro j w hw
           have hpos:0<old.length:=by
            rcases Nat.eq_zero_or_pos old.length with h0 |h0
            ·have:vo=[]:=Ug (by rw[hfo.len,h0];simp)
             rw[this]at hw;simp at hw
            ·exact h0
           obtain⟨g2,o2,e2,hc2⟩:=hbo hpos
           cases e2
           rw[Jm];exact hc2 j w hw
          exact grow _ rfl hold (by omega) S hs (Fr.refl _ _ _) rfl
        ·rename_i k0 len0
         obtain⟨g',sz',tot,cap',T,hE,hr,hl,hxx,hx',hx''⟩:=hs'.of_os
         injection hE with hE1 hE2 hE3
         subst hE1;subst hE2;subst hE3
         ·split at h
          ·rename_i z0 es hk
           obtain⟨⟨rfl,h2,h3,cur,h4,h5,h6⟩,hnI,hlt⟩:=hs.at hk (by simp) hr
           have hsrc:z0=n+1/\0+old.length<=es.length/\old=es.take old.length:=by
            simp only[Jw,hk]at ho
            split at ho
            ·rename_i hc
             injection ho with ho'
             exact⟨hc.1,hc.2,by rw[<-ho'];simp⟩
            ·cases ho
           obtain⟨rfl,hle,hold⟩:=hsrc
           have hxC:=hx' rfl
           clear hx'
           rw[Nat.zero_add]at hxC hx'' hle
           have e00:(0:Nat)*(n+1)=0:=Nat.zero_mul _
           rw[e00]at hs' hbo ⊢
           have hcellold:∀j w,vo[j]?=some w->W.cell? ((⟨g',0,none⟩:Addr).add j)=some w:=by
            intro j w hw
            have hpos:0<old.length:=by
             rcases Nat.eq_zero_or_pos old.length with h0 |h0
             ·have:vo=[]:=Ug (by rw[hfo.len,h0];simp)
              rw[this]at hw;simp at hw
             ·exact h0
            obtain⟨g2,o2,e2,hc2⟩:=hbo hpos
            cases e2
            rw[Jm];exact hc2 j w hw
           -- the world when there is room
           have hroomW:old.length+new.length<=cb->∃cur',cur'.size=tot/\(Builtin.append_ #[t,t] ty #[.slice (some ⟨g',0,none⟩) old.length cb,.slice (some ⟨g,o,none⟩) new.length ca]).run P W=.ok (.slice (some ⟨g',0,none⟩) (old.length+new.length) cb) (W.setRow g' cur')/\
             (∀p,cur'[p]?=if p<old.length*(n+1) then cur[p]? else if p<(old.length+new.length)*(n+1) then vn[p-old.length*(n+1)]? else cur[p]?):=by
            intro hroom
            have hfit:old.length*(n+1)+vn.length<=cur.size:=by
             rw[hfn.len,h5,<-Nat.add_mul,<-hxC]
             exact Va _ hroom
            refine⟨_,?_,run_append_room' hu hsz h4 hfn.len hcell' (hfn.ones (by omega)) hroom hfit,λp=>?_⟩
            ·simp only[List.size_toArray,Ku,Ve,Vf,Array.length_toList]
             omega
            ·simp only[Ub]
             rw[splice_get (by simpa using hfit),hfn.len,<-Nat.add_mul]
             simp
           split at h
           ·rename_i hleq
            cases h
            have holdE:old=es:=by rw[hold,hleq];simp
            subst holdE
            by_cases hroom:old.length+new.length<=cb
            ·obtain⟨cur',hsz',hrun,hget⟩:=hroomW hroom
             have hmv:=hs.move (ob':=.row (n+1) (old++new)) (W':=W.setRow g' cur') hk (by simp) hr rfl rfl rfl (setRow_size _ _ _) (λb hb=>setRow_other W g' b _ hb) (λhmm=>by
              have hF:=hfo.append hfn
              refine⟨rfl,by rw[Ku,<-hxC];exact Va _ hroom,hF.el,cur',setRow_heap W g' cur _ T _ h4,hsz',λi' j e' c he' hc'=>?_⟩
              have ho1:=hF.one _ _ _ _ he' hc'
              obtain⟨u,hu',hr'⟩:=hF.val _ _ _ _ he' hc'
              refine⟨u,?_,hmm _ _ hr',ho1⟩
              have hi':i'<(old++new).length:=(Kr.1 he').1
              have hj:j<n+1:=by rw[<-hF.el _ _ he'];exact (Kr.1 hc').1
              rw[hget]
              have hlt':=Jt hi' hj
              rw[Ku]at hlt'
              by_cases q:i'*(n+1)+j<old.length*(n+1)
              ·rw[if_pos q]
               rw[Ut (by rw[hfo.len];exact q)]at hu'
               have:=hcellold _ _ hu'
               rw[Jm,Nat.zero_add,cell_of_row W g' _ cur T (0,0) h4]at this
               exact this
              ·rw[if_neg q,if_pos hlt']
               rw[Vh (by rw[hfo.len];omega),hfo.len]at hu'
               exact hu')
             refine⟨_,_,_,hrun,?_,hmv.1,hmv.2⟩
             have:=VR.os (W:=W.setRow g' cur') (C:=C.add S.length (g',n+1,tot,T)) (k:=S.length) (i:=0) (len:=old.length+new.length) (x:=false) (cap:=cb) (Cx.add_same _ _ _) hroom (λe=>by cases e) (λ_=>by simpa using hxC) (by simpa using hx'')
             simpa using this
            ·exact grow ⟨g',0,none⟩ rfl hcellold (by omega) (S.set k0 .dead) (hs.kill k0).1 (hs.kill k0).2 (by simp)
           ·rename_i hlne
            split at h
            ·rename_i hfits
             cases h
             have hroom:old.length+new.length<=cb:=by
              have h7:(old.length+new.length)*(n+1)<=cb*(n+1):=by
               rw[hxC]
               exact Vk (Va _ hfits) h2
              exact Nat.le_of_mul_le_mul_right h7 (by omega)
             obtain⟨cur',hsz',hrun,hget⟩:=hroomW hroom
             have hput:=hs.put (ob':=.row (n+1) (es.take old.length++new++es.drop (old.length+new.length))) (W':=W.setRow g' cur') hk (by simp) hr rfl rfl rfl (setRow_size _ _ _) (λb hb=>setRow_other W g' b _ hb) (λhmm=>by
              have hes:∀i' (e':List D),(es.take old.length++new++es.drop (old.length+new.length))[i']?=some e'->if i'<old.length then es[i']?=some e' else if i'<old.length+new.length then new[i'-old.length]?=some e' else es[i']?=some e':=by
               intro i' e' he'
               rw[splice_get (by omega)]at he'
               by_cases q1:i'<old.length
               ·rw[if_pos q1]at he' ⊢;exact he'
               ·rw[if_neg q1]at he' ⊢
                by_cases q2:i'<old.length+new.length
                ·rw[if_pos q2]at he' ⊢;exact he'
                ·rw[if_neg q2]at he' ⊢;exact he'
              have hlenE:(es.take old.length++new++es.drop (old.length+new.length)).length=es.length:=by simp;omega
              refine⟨rfl,by rw[hlenE];exact h2,λi' e' he'=>?_,cur',setRow_heap W g' cur _ T _ h4,hsz',λi' j e' c he' hc'=>?_⟩
              ·have:=hes i' e' he'
               split at this
               ·exact h3 _ _ this
               ·split at this
                ·exact hfn.el _ _ this
                ·exact h3 _ _ this
              ·have hE:=hes i' e' he'
               split at hE
               ·rename_i q
                obtain⟨u,hu',hr',ho'⟩:=h6 _ _ _ _ hE hc'
                have hj:j<n+1:=by rw[<-h3 _ _ hE];exact (Kr.1 hc').1
                exact⟨u,by rw[hget,if_pos (Jt q hj)];exact hu',hmm _ _ hr',ho'⟩
               ·rename_i q
                split at hE
                ·rename_i q2
                 obtain⟨u,hu',hr'⟩:=hfn.val _ _ _ _ hE hc'
                 have hj:j<n+1:=by rw[<-hfn.el _ _ hE];exact (Kr.1 hc').1
                 have e1:i'*(n+1)=old.length*(n+1)+(i'-old.length)*(n+1):=by rw[<-Nat.add_mul];congr 1;omega
                 refine⟨u,?_,hmm _ _ hr',hfn.one _ _ _ _ hE hc'⟩
                 rw[hget,if_neg (by rw[e1];omega),if_pos (Jt q2 hj),e1]
                 rw[show old.length*(n+1)+(i'-old.length)*(n+1)+j-old.length*(n+1)=(i'-old.length)*(n+1)+j by omega]
                 exact hu'
                ·rename_i q2
                 obtain⟨u,hu',hr',ho'⟩:=h6 _ _ _ _ hE hc'
                 have e1:(old.length+new.length)*(n+1)<=i'*(n+1):=Va _ (by omega)
                 have e2:old.length*(n+1)<=(old.length+new.length)*(n+1):=Va _ (by omega)
                 exact⟨u,by rw[hget,if_neg (by omega),if_neg (by omega)];exact hu',hmm _ _ hr',ho'⟩)
             refine⟨_,_,_,hrun,?_,hput.1,hput.2⟩
             have:=VR.os (W:=W.setRow g' cur') (C:=C) (k:=k0) (i:=0) (len:=old.length+new.length) (x:=false) (cap:=cb) hr hroom (λe=>by cases e) (λ_=>by simpa using hxC) (by simpa using hx'')
             simpa using this
            ·cases h
          ·cases h
        ·cases h
       ·cases h
     ·cases h
    ·cases h
   ·cases h
  ·cases h
 ·cases h
end
section
variable {P : Program} {W : World} {C : Cx} {S : List Ob}
theorem zeros_fl {z:List D} {vz:Array Value} (hz:VRs W C z vz.toList) (h1:z.all D.one=true) (n:Nat):FL W C z.length (List.replicate n z) (Builtin.zeroCells vz n).toList:=by
 have hl:z.length=vz.size:=by have:=hz.1;simpa using this
 refine⟨λi e he=>?_,by simp[size_zeroCells,hl],λi j e c he hc=>?_,λi j e c he hc=>?_⟩
 ·rw[List.getElem?_replicate]at he
  split at he
  ·cases he;rfl
  ·cases he
 ·rw[List.getElem?_replicate]at he
  split at he
  ·cases he;exact all_one h1 c (Kx hc)
  ·cases he
 ·rw[List.getElem?_replicate]at he
  split at he
  ·rename_i hi
   cases he
   obtain⟨u,hu,hr⟩:=hz.get hc
   have hj:j<z.length:=(Kr.1 hc).1
   refine⟨u,?_,hr⟩
   rw[Ul]at hu ⊢
   have hlt:i*z.length+j<n*vz.size:=by rw[<-hl];exact Jt hi hj
   have hmod:(i*z.length+j) % vz.size=j:=by rw[<-hl,Nat.mul_comm,Nat.mul_add_mod,Nat.mod_eq_of_lt hj]
   have hjs:j<vz.size:=by omega
   rw[<-hu]
   simp[Builtin.zeroCells,hlt,hmod,hjs]
  ·cases he
theorem run_dAppendMake (hs:SR W C S) {t u ty:TypeId} {s x d:D} {vs vx:Value} {S':List Ob} (hs':VR W C s vs) (hx:VR W C x vx) (h:dAppendMake P S t u s x=some (d,S')):
  ∃r W' C',(Builtin.append_ #[t,u] ty #[vs,vx]).run P W=.ok r W'/\VR W' C' d r/\SR W' C' S'/\Fr W C S W' C' S':=by
 unfold dAppendMake at h
 split at h
 ·rename_i kn e hn he
  have hu:=elem_underlying he
  split at h
  ·rename_i n z hsz hz
   obtain⟨zv,hzr,⟨i,hi,hiz⟩,hzv⟩:=run_zero hz
   have hzc:=(Ju (W:=W) (C:=C) hzv).cells (fromVal_def hzv)
   have his:i.size=n+1:=by
    obtain⟨i',hi',h'⟩:=info_of_size hsz
    rw[hi]at hi';cases hi';exact h'
   have hby:Kl P e=i.bytes:=by simp[Kl,hi]
   split at h
   ·rename_i hzl
    split at h
    ·rename_i k len cap kq m
     split at h
     ·rename_i sz es hk
      split at h
      ·rename_i hc
       obtain⟨rfl,hm,hle,hcap,hmx,hbd⟩:=hc
       cases h
       cases hs' with
       |osc hr hl hcc=>
        rename_i g sz' tot T
        cases hx
        have hsrc:Jw S (n+1) (.os k 0 len false)=some ((es.drop 0).take len):=by
         simp only[Jw,hk]
         rw[if_pos (by simpa using hle)]
        obtain⟨⟨rfl,-⟩,-,-⟩:=hs.at hk (by simp) hr
        have hos:VR W C (.os k 0 len false) (.slice (some ⟨g,0*(n+1),none⟩) len cap):=.os hr hl (λe=>by cases e) (λ_=>hcc) (by omega)
        obtain⟨b,cb,vo,hveq,hcb,hfo,hbo⟩:=src_spec hs hos hsrc
        have hlen:((es.drop 0).take len).length=len:=by simp;omega
        rw[hlen]at hveq hbo hcb
        cases hveq
        have hlz:zv.cells.size=n+1:=by have:=hzc.1;simp at this;omega
        have hcell:∀j w,vo[j]?=some w->W.drew.cell? ((⟨g,0*(n+1),none⟩:Addr).add j)=some w:=by
         intro j w hw
         by_cases h0:0<len
         ·obtain⟨g',b',e',hc'⟩:=hbo h0
          cases e'
          rw[Jm]
          exact hc' j w hw
         ·have:vo.length=0:=by rw[hfo.len,hlen,show len=0 by omega,Nat.zero_mul]
          rw[Ug this]at hw
          cases hw
        have hold:=run_firstCells_some (P:=P) W.drew (n+1) len ⟨g,0*(n+1),none⟩ len cap vo (by rw[hfo.len,hlen]) hcell
        have hmn:(m.toNat:Int)=m:=by omega
        have hrun:=Lib.run_append_grow_zeros (P:=P) W t u ty e i zv kq kn hu hn hi hiz (some ⟨g,0*(n+1),none⟩) len cap vo (by rw[his];exact hold) m.toNat (by omega) (by omega) hcap (by simp only[maxLen]at hmx;omega) (by rw[<-hby];exact Vk (Va _ (Nat.le_add_left m.toNat len)) (by omega)) (growslice_fits hcap (by rw[<-hby];exact hbd))
        rw[hmn]at hrun
        have hge:=grownCap_ge W (len+m.toNat) cap e
        have hz1:z.cells.length=n+1:=hzl.1
        have hfz:=zeros_fl hzc hzl.2 m.toNat
        rw[hz1]at hfz
        have htot:((es.drop 0).take len++List.replicate m.toNat z.cells).length=len+m.toNat:=by rw[Ku,hlen,List.length_replicate]
        obtain⟨C',h1,h2,h3⟩:=push_row hs (hfo.append hfz) zv.cells hlz (grownCap W (len+m.toNat) cap e) (by rw[htot];exact hge) e W.drew rfl (vo.toArray++Builtin.zeroCells zv.cells m.toNat++Builtin.zeroCells zv.cells (grownCap W (len+m.toNat) cap e-(len+m.toNat))) (by rw[htot];simp)
        rw[htot]at h3
        exact⟨_,_,C',hrun,h3,by simpa using h1,by simpa using h2⟩
      ·cases h
     ·cases h
    ·cases h
   ·cases h
  ·cases h
 ·cases h
end
end Go.Proofs.YtaklebjoenophaaGreat.Dm
