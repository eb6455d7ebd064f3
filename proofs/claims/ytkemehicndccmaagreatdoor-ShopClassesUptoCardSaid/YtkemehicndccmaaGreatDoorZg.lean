/-
  What plain data of a type are: words for structs, and for slices of them.
  Lists of violations that grow, whatever is in them; the reference's violations of the numbers of a rule.
  The reference's violations of the percents of a rule.
  The reference's violations of a routing.
  The machine at minimum connecting times: the reference's Check.
-/
import Derived.Test.YtkemehicndccmaaGreatDoorEval
import Derived.Test.YtkemehicndccmaaGreatDoorDmH
import Derived.Test.YtkemehicndccmaaGreatDoorCdD
import Derived.Test.YtkemehicndccmaaGreatDoorPlT
set_option linter.unusedSimpArgs false
set_option linter.unusedVariables false
namespace Go.Proofs.YtkemehicndccmaaGreatDoor
open Go Dm Go.RowKit

theorem int_bd {n:Int} (h:(Lit.int .i64 n).wf=true): -9223372036854775808≤n∧n≤9223372036854775807:=by
 unfold Lit.wf at h
 rw[Bool.and_eq_true,decide_eq_true_eq,decide_eq_true_eq]at h
 exact h
def CellR (e e':List D):Prop:=e'.length=e.length∧∀(j:Nat) (c c':D),e[j]? =some c→e'[j]? =some c'→c'.one=true∧∀W C u,VR W C c u→VR W C c' u
theorem nils_sl {W:World} {C:Cx} {v:Value} {sz:Nat} (h:VR W C .nils v):VR W C (.sl sz [] true) v:=by
 cases h
 exact .sl0 (fun _=>rfl)
theorem VR.sl_rel {W:World} {C:Cx} {sz:Nat} {es es':List (List D)} {x:Bool} {v:Value} (h:VR W C (.sl sz es x) v) (hl:es'.length=es.length) (hr:∀(j:Nat) (e e':List D),es[j]? =some e→es'[j]? =some e'→CellR e e'):VR W C (.sl sz es' x) v:=by
 have at':∀ {j:Nat} {e':List D},es'[j]? =some e'→∃e,es[j]? =some e:=fun {j e'} h=>by
  have hj:=(List.getElem?_eq_some_iff.1 h).1
  exact⟨es[j]'(by omega),List.getElem?_eq_getElem (by omega)⟩
 have cell:∀ {e e':List D} {j:Nat} {c':D},CellR e e'→e'[j]? =some c'→∃c,e[j]? =some c:=fun {e e' j c'} h k=>by
  have hj:=(List.getElem?_eq_some_iff.1 k).1
  exact⟨e[j]'(by rw[←h.1];exact hj),List.getElem?_eq_getElem (by rw[←h.1];exact hj)⟩
 cases h with
 |sl vs hp hg hcap hx hs hc ho hv=>
  rw[←hl]at hp hcap hx hc ⊢
  refine .sl vs hp hg hcap hx (fun i e' he'=>?_) hc (fun i j e' c' he' hc'=>?_) (fun i j e' c' he' hc'=>?_)
  ·obtain⟨e,he⟩:=at' he'
   rw[(hr i e e' he he').1];exact hs i e he
  ·obtain⟨e,he⟩:=at' he'
   obtain⟨c,hc⟩:=cell (hr i e e' he he') hc'
   exact ((hr i e e' he he').2 j c c' hc hc').1
  ·obtain⟨e,he⟩:=at' he'
   obtain⟨c,hc⟩:=cell (hr i e e' he he') hc'
   exact ((hr i e e' he he').2 j c c' hc hc').2 _ _ _ (hv i j e c he hc)
 |sl0 hx=>
  have:es'=[]:=List.eq_nil_of_length_eq_zero (by simpa using hl)
  subst this
  exact .sl0 hx
theorem CellR.refl {c:List D} (h:∀d∈c,d.one=true):CellR c c:=⟨rfl,fun j x y hx hy=>by
 rw[hx]at hy
 cases hy
 exact⟨h _ (List.mem_of_getElem? hx),fun _ _ _ h=>h⟩⟩
theorem agg_rel {W:World} {C:Cx} {c c':List D} {v:Value} (hr:CellR c c') (h:VR W C (.agg c) v):VR W C (.agg c') v:=by
 obtain⟨vs,rfl,hv⟩:=h.of_agg
 have:VRs W C c' vs.toList:=⟨hr.1.trans hv.1,fun j d u hd hu=>by
  have hj:=(List.getElem?_eq_some_iff.1 hd).1
  obtain⟨c0,hc0⟩:∃c0,c[j]? =some c0:=⟨c[j]'(by rw[←hr.1];exact hj),List.getElem?_eq_getElem (by rw[←hr.1];exact hj)⟩
  exact (hr.2 j c0 d hc0 hd).2 _ _ _ (hv.2 j c0 u hc0 hu)⟩
 have:=VR.agg_of this
 simpa using this
end Go.Proofs.YtkemehicndccmaaGreatDoor
namespace Go.Proofs.YtkemehicndccmaaGreatDoor.Dm
open Go Gw
set_option linter.unusedSimpArgs false
set_option linter.unusedSimpArgs false

def FS (T:List Ob) (a:Option D) (m z:Nat):Prop:=∃d fs,a=some d∧GL 2 encF T d fs∧fs.length≤m∧∀f∈fs,f.2.size≤z
def FR (d:D) (m z:Nat):Prop:=∃fs:List (Int×ByteArray),FZ d fs∧fs.length≤m∧∀f∈fs,f.2.size≤z
theorem GL_fz {T:List Ob} {d:D} {fs:List (Int×ByteArray)} (h:GL 2 encF T d fs):∃d',freeze T 40 d=some d'∧FZ d' fs:=by
 rcases h with ⟨rfl,rfl⟩ | ⟨k,rfl,hk⟩
 ·exact⟨_,rfl,.inl ⟨rfl,rfl⟩⟩
 ·have:=freeze_os (n:=38) (x:=false) hk (encF_pure fs)
  rw[List.length_map]at this
  exact⟨_,this,.inr ⟨_,rfl⟩⟩
theorem app_s {T:List Ob} {d:D} {fs:List (Int×ByteArray)} {z:Nat} (h:GL 2 encF T d fs) (hl:fs.length≤4999999999999) (hz:∀f∈fs,f.2.size≤z) (b:Bool) (e:Int) (s:ByteArray) (hs:s.size≤z):
  ∃d' T' fs',(b=true→dAppend Tryz.prog T 66 66 d (.sl 2 [[.int .i64 e,.str s]] true)=some (d',T'))∧(b=false→d'=d∧T'=T)∧GL 2 encF T' d' fs'∧fs'.length≤fs.length+1∧(∀f∈fs',f.2.size≤z)∧KeepF T T':=by
 obtain⟨d',T',h1,h2,h3,h4⟩:=app_if h (by omega) b e s
 refine⟨d',T',_,h1,h2,h3,by rw[List.length_append];have:=ifF_len b e s;omega,fun f hf=>?_,h4⟩
 rcases List.mem_append.1 hf with hf |hf
 ·exact hz f hf
 ·unfold ifF at hf
  cases b
  ·simp at hf
  ·have:f=(e,s):=by simpa using hf
   rw[this];exact hs
theorem encZ_pure (l:List Int):pureLL (l.map encZ)=true:=by
 induction l with
 |nil=>rfl
 |cons f fs ih=>rw[List.map_cons,pureLL_cons,ih];rfl
def combT:ByteArray:=ByteArray.mk #[99,111,109,98,105,110,101,32]
section
variable {n : Nat}
set_option maxHeartbeats 8000000 in
set_option maxRecDepth 100000 in
theorem list21_d {l:List Int} {lx:Bool} (hl:l.length≤1048576) (hn:1048700≤n):
  WO (dcall E (n+1) 101 [.sl 1 (l.map encZ) lx] []) fun d T=>∃fs,GL 2 encF T d fs∧fs.length≤2*l.length∧∀f∈fs,f.2.size≤30:=by
 refine wo_dcall Tryz.func101 rfl (by decide) rfl 58 rfl (fun a hal ha=>?_)
 have h0:a[0]? =some (.sl 1 (l.map encZ) lx):=ha 0 (by simp)
 clear ha
 simp(maxSteps:=1000000)(disch:=omega)only[push_cast,↓WX,simprocAttr]
 refine wl_loop (fun i a T=>FS T a[3]? (2*i) 30∧a.length=58∧a[0]? =some (.sl 1 (l.map encZ) lx)∧a[4]? =some (.int .i64 i)) l.length ?_ (by omega) ?_
 ·simp(maxSteps:=1000000)(disch:=omega)only[push_cast,hal,h0,Int.natCast_zero,FS,simprocAttr]
  exact⟨_,_,rfl,GL.nil,Nat.zero_le _,fun f h=>by cases h⟩
 clear hal h0 a
 rintro i a T hi ⟨⟨d,fs,h3,hg,hfl,hfz⟩,hal,h0,h4⟩
 rcases Nat.lt_or_eq_of_le hi with hlt |rfl
 case inr=>
  simp(maxSteps:=1000000)(disch:=omega)only[push_cast,hal,h0,h3,h4,Int.lt_irrefl,Tryz.f101,↓WX,simprocAttr]
  exact⟨fs,hg,hfl,hfz⟩
 obtain⟨x,hx⟩:∃x,l[i]? =some x:=⟨l[i],by simp⟩
 have hltc:(i:Int)<l.length:=by omega
 obtain⟨q,hq,cq⟩:=Wb.rdecW (n:=n) (i:=i) (by omega) (by omega)
 have hsz:combT.size=8:=rfl
 have mq:=mx_of (a:=combT) (b:=q) (by omega)
 have hat:(combT++q).size≤30:=by rw[ba_len];omega
 unfold combT at mq
 refine wc_scut (fun a V=>V=T∧a.length=58∧a[0]? =some (.sl 1 (l.map encZ) lx)∧a[3]? =some (d)∧a[4]? =some (.int .i64 i)) ?_ ?_
 ·simp(maxSteps:=1000000)(disch:=omega)only[push_cast,hal,h0,h3,h4,hltc,↓WX,simprocAttr]
 clear hal h0 h3 h4 a
 rintro a V ⟨rfl,hal,h0,h3,h4⟩
 rw[wc_seq,wc_block]
 refine wc_scut (fun a W=>W=V∧a.length=58∧a[0]? =some (.sl 1 (l.map encZ) lx)∧a[3]? =some (d)∧a[4]? =some (.int .i64 i)∧a[5]? =some (.str (combT++q))∧a[6]? =some (.bool false)) ?_ ?_
 ·unfold combT
  simp(maxSteps:=1000000)(disch:=omega)only[push_cast,gt_iff_lt,hal,h0,h3,h4,cq,mq,↓WX,simprocAttr]
 clear hal h0 h3 h4 a
 rintro a W ⟨rfl,hal,h0,h3,h4,h5,h6⟩
 generalize combT++q=at0 at*
 refine wc_scut (fun a V=>(V=W∧∃b,a[6]? =some (.bool b))∧a.length=58∧a[0]? =some (.sl 1 (l.map encZ) lx)∧a[3]? =some (d)∧a[4]? =some (.int .i64 i)∧a[5]? =some (.str at0)) ?_ ?_
 ·simp(maxSteps:=1000000)(disch:=omega)only[push_cast,↓WX,simprocAttr]
  refine wl_loop (fun k a V=>(V=W∧∃b,a[6]? =some (.bool b))∧a.length=58∧a[0]? =some (.sl 1 (l.map encZ) lx)∧a[3]? =some (d)∧a[4]? =some (.int .i64 i)∧a[5]? =some (.str at0)∧a[7]? =some (.int .i64 k)) i ?_ (by omega) ?_
  ·simp(maxSteps:=1000000)(disch:=omega)only[push_cast,hal,h0,h3,h4,h5,h6,Int.natCast_zero,simprocAttr]
   exact⟨_,rfl⟩
  clear hal h0 h3 h4 h5 h6 a
  rintro k a V hk ⟨⟨rfl,b,h6⟩,hal,h0,h3,h4,h5,h7⟩
  rcases Nat.lt_or_eq_of_le hk with hkt |rfl
  case inr=>
   simp(maxSteps:=1000000)(disch:=omega)only[push_cast,hal,h0,h3,h4,h5,h6,h7,Int.lt_irrefl,↓WX,simprocAttr]
   exact⟨_,rfl⟩
  obtain⟨y,hy⟩:∃y,l[k]? =some y:=⟨l[k]'(by omega),by simp⟩
  have hktc:(k:Int)<i:=by omega
  have hkl:k<l.length:=by omega
  cases b
  ·simp(maxSteps:=1000000)(disch:=omega)only[push_cast,hal,h0,h3,h4,h5,h6,h7,hktc,hkt,hx,hy,wrap_ok,Int.natCast_add,Int.natCast_one,↓WX,simprocAttr]
   exact⟨_,rfl⟩
  ·simp(maxSteps:=1000000)(disch:=omega)only[push_cast,hal,h0,h3,h4,h5,h6,h7,hktc,hkt,wrap_ok,Int.natCast_add,Int.natCast_one,↓WX,simprocAttr]
   exact⟨_,rfl⟩
 clear hal h0 h3 h4 h5 h6 a
 rintro a V ⟨⟨rfl,b,h6⟩,hal,h0,h3,h4,h5⟩
 refine wc_scut (fun a V'=>FS V' a[3]? (2*i+1) 30∧a.length=58∧a[0]? =some (.sl 1 (l.map encZ) lx)∧a[4]? =some (.int .i64 i)∧a[5]? =some (.str at0)∧a[6]? =some (.bool b)) ?_ ?_
 ·obtain⟨d1,T1,fs1,p1,q1,g1,l1,z1,k1⟩:=app_s hg (by omega) hfz true 2 at0 hat
  replace p1:=p1 rfl
  by_cases c1:x<1
  ·simp(maxSteps:=1000000)(disch:=omega)only[push_cast,hal,h0,h3,h4,h5,h6,hx,c1,p1,FS,↓WX,simprocAttr]
   exact⟨_,_,rfl,g1,by omega,z1⟩
  by_cases c2:9999<x
  ·simp(maxSteps:=1000000)(disch:=omega)only[push_cast,gt_iff_lt,hal,h0,h3,h4,h5,h6,hx,c1,c2,p1,FS,↓WX,simprocAttr]
   exact⟨_,_,rfl,g1,by omega,z1⟩
  simp(maxSteps:=1000000)(disch:=omega)only[push_cast,gt_iff_lt,hal,h0,h3,h4,h5,h6,hx,c1,c2,FS,↓WX,simprocAttr]
  exact⟨_,_,rfl,hg,by omega,hfz⟩
 clear hal h0 h3 h4 h5 h6 a
 rintro a V' ⟨⟨d1,fs1,h3,g1,l1,z1⟩,hal,h0,h4,h5,h6⟩
 obtain⟨d2,T2,fs2,p2,q2,g2,l2,z2,k2⟩:=app_s g1 (by omega) z1 b 6 at0 hat
 cases b
 ·simp(maxSteps:=1000000)(disch:=omega)only[push_cast,hal,h0,h3,h4,h6,wrap_ok,Int.natCast_add,Int.natCast_one,FS,↓WX,simprocAttr]
  exact⟨hlt,_,_,rfl,g1,by omega,z1⟩
 ·replace p2:=p2 rfl
  simp(maxSteps:=1000000)(disch:=omega)only[push_cast,hal,h0,h3,h4,h5,h6,p2,wrap_ok,Int.natCast_add,Int.natCast_one,FS,↓WX,simprocAttr]
  exact⟨hlt,_,_,rfl,g2,by omega,z2⟩
theorem list21_c {l:List Int} {lx:Bool} (hl:l.length≤1048576) (hn:1048701≤n):∃d,FR d (2*l.length) 30∧∀st S,callD E (dcall E n) st S 101 [.sl 1 (l.map encZ) lx]=some (d,S):=by
 obtain⟨m,rfl⟩:∃m,n=m+1:=⟨n-1,by omega⟩
 obtain⟨d,T,ho,fs,hg,h1,h2⟩:=list21_d (n:=m) (lx:=lx) hl (by omega)
 obtain⟨d',f,hz⟩:=GL_fz hg
 exact⟨d',⟨fs,hz,h1,h2⟩,fun st S=>callD_pure rfl (by simp[pureL_cons,pureL_nil,D.pure,encZ_pure]) ho f⟩
end
end Go.Proofs.YtkemehicndccmaaGreatDoor.Dm
namespace Go.Proofs.YtkemehicndccmaaGreatDoor.Dm
open Go Gw
set_option linter.unusedSimpArgs false
set_option linter.unusedSimpArgs false
abbrev encPc (p:ByteArray×Int):List D:=[.str p.1,.int .i64 p.2]
theorem encPc_pure (l:List (ByteArray×Int)):pureLL (l.map encPc)=true:=by
 induction l with
 |nil=>rfl
 |cons f fs ih=>rw[List.map_cons,pureLL_cons,ih];rfl
def percT:ByteArray:=ByteArray.mk #[112,101,114,99,101,110,116,32]
section
variable {n : Nat}
set_option maxHeartbeats 8000000 in
set_option maxRecDepth 100000 in
theorem percents21_d {l:List (ByteArray×Int)} {lx:Bool} (hl:l.length≤1048576) (hz:∀p∈l,p.1.size≤1048576) (hn:1048700≤n):
  WO (dcall E (n+1) 102 [.sl 2 (l.map encPc) lx] []) fun d T=>∃fs,GL 2 encF T d fs∧fs.length≤3*l.length∧∀f∈fs,f.2.size≤30:=by
 refine wo_dcall Tryz.func102 rfl (by decide) rfl 74 rfl (fun a hal ha=>?_)
 have h0:a[0]? =some (.sl 2 (l.map encPc) lx):=ha 0 (by simp)
 clear ha
 simp(maxSteps:=1000000)(disch:=omega)only[push_cast,↓WX,simprocAttr]
 refine wl_loop (fun i a T=>FS T a[3]? (3*i) 30∧a.length=74∧a[0]? =some (.sl 2 (l.map encPc) lx)∧a[4]? =some (.int .i64 i)) l.length ?_ (by omega) ?_
 ·simp(maxSteps:=1000000)(disch:=omega)only[push_cast,hal,h0,Int.natCast_zero,FS,simprocAttr]
  exact⟨_,_,rfl,GL.nil,Nat.zero_le _,fun f h=>by cases h⟩
 clear hal h0 a
 rintro i a T hi ⟨⟨d,fs,h3,hg,hfl,hfz⟩,hal,h0,h4⟩
 rcases Nat.lt_or_eq_of_le hi with hlt |rfl
 case inr=>
  simp(maxSteps:=1000000)(disch:=omega)only[push_cast,hal,h0,h3,h4,Int.lt_irrefl,Tryz.f102,↓WX,simprocAttr]
  exact⟨fs,hg,hfl,hfz⟩
 obtain⟨x,hx⟩:∃x,l[i]? =some x:=⟨l[i],by simp⟩
 have hltc:(i:Int)<l.length:=by omega
 obtain⟨q,hq,cq⟩:=Wb.rdecW (n:=n) (i:=i) (by omega) (by omega)
 have hsz:percT.size=8:=rfl
 have mq:=mx_of (a:=percT) (b:=q) (by omega)
 have hat:(percT++q).size≤30:=by rw[ba_len];omega
 unfold percT at mq
 refine wc_scut (fun a V=>V=T∧a.length=74∧a[0]? =some (.sl 2 (l.map encPc) lx)∧a[3]? =some (d)∧a[4]? =some (.int .i64 i)) ?_ ?_
 ·simp(maxSteps:=1000000)(disch:=omega)only[push_cast,hal,h0,h3,h4,hltc,↓WX,simprocAttr]
 clear hal h0 h3 h4 a
 rintro a V ⟨rfl,hal,h0,h3,h4⟩
 rw[wc_seq,wc_block]
 refine wc_scut (fun a W=>W=V∧a.length=74∧a[0]? =some (.sl 2 (l.map encPc) lx)∧a[3]? =some (d)∧a[4]? =some (.int .i64 i)∧a[5]? =some (.str (percT++q))∧a[6]? =some (.bool false)) ?_ ?_
 ·unfold percT
  simp(maxSteps:=1000000)(disch:=omega)only[push_cast,gt_iff_lt,hal,h0,h3,h4,cq,mq,↓WX,simprocAttr]
 clear hal h0 h3 h4 a
 rintro a W ⟨rfl,hal,h0,h3,h4,h5,h6⟩
 generalize percT++q=at0 at*
 refine wc_scut (fun a V=>(V=W∧∃b,a[6]? =some (.bool b))∧a.length=74∧a[0]? =some (.sl 2 (l.map encPc) lx)∧a[3]? =some (d)∧a[4]? =some (.int .i64 i)∧a[5]? =some (.str at0)) ?_ ?_
 ·simp(maxSteps:=1000000)(disch:=omega)only[push_cast,↓WX,simprocAttr]
  refine wl_loop (fun k a V=>(V=W∧∃b,a[6]? =some (.bool b))∧a.length=74∧a[0]? =some (.sl 2 (l.map encPc) lx)∧a[3]? =some (d)∧a[4]? =some (.int .i64 i)∧a[5]? =some (.str at0)∧a[7]? =some (.int .i64 k)) i ?_ (by omega) ?_
  ·simp(maxSteps:=1000000)(disch:=omega)only[push_cast,hal,h0,h3,h4,h5,h6,Int.natCast_zero,simprocAttr]
   exact⟨_,rfl⟩
  clear hal h0 h3 h4 h5 h6 a
  rintro k a V hk ⟨⟨rfl,b,h6⟩,hal,h0,h3,h4,h5,h7⟩
  rcases Nat.lt_or_eq_of_le hk with hkt |rfl
  case inr=>
   simp(maxSteps:=1000000)(disch:=omega)only[push_cast,hal,h0,h3,h4,h5,h6,h7,Int.lt_irrefl,↓WX,simprocAttr]
   exact⟨_,rfl⟩
  obtain⟨y,hy⟩:∃y,l[k]? =some y:=⟨l[k]'(by omega),by simp⟩
  have hktc:(k:Int)<i:=by omega
  have hkl:k<l.length:=by omega
  cases b
  ·by_cases qe:y.1=x.1
   ·simp(maxSteps:=1000000)(disch:=omega)only[push_cast,hal,h0,h3,h4,h5,h6,h7,hktc,hkt,hx,hy,qe,str_eq,wrap_ok,Int.natCast_add,Int.natCast_one,↓WX,simprocAttr]
    exact⟨_,rfl⟩
   ·simp(maxSteps:=1000000)(disch:=omega)only[push_cast,hal,h0,h3,h4,h5,h6,h7,hktc,hkt,hx,hy,qe,str_eq,wrap_ok,Int.natCast_add,Int.natCast_one,↓WX,simprocAttr]
    exact⟨_,rfl⟩
  ·simp(maxSteps:=1000000)(disch:=omega)only[push_cast,hal,h0,h3,h4,h5,h6,h7,hktc,hkt,wrap_ok,Int.natCast_add,Int.natCast_one,↓WX,simprocAttr]
   exact⟨_,rfl⟩
 clear hal h0 h3 h4 h5 h6 a
 rintro a V ⟨⟨rfl,b,h6⟩,hal,h0,h3,h4,h5⟩
 obtain⟨bc,cc⟩:=rCode3_c (n:=n) (s:=x.1) (by have:=hz x (List.mem_of_getElem? hx);omega) (by have:=hz x (List.mem_of_getElem? hx);omega)
 refine wc_scut (fun a V'=>FS V' a[3]? (3*i+1) 30∧a.length=74∧a[0]? =some (.sl 2 (l.map encPc) lx)∧a[4]? =some (.int .i64 i)∧a[5]? =some (.str at0)∧a[6]? =some (.bool b)) ?_ ?_
 ·obtain⟨d1,T1,fs1,p1,q1,g1,l1,z1,k1⟩:=app_s hg (by omega) hfz (!bc) 5 at0 hat
  cases bc
  ·replace p1:=p1 rfl
   simp(maxSteps:=1000000)(disch:=omega)only[push_cast,hal,h0,h3,h4,h5,h6,hx,cc,p1,dUn,Bool.not_false,FS,↓WX,simprocAttr]
   exact⟨_,_,rfl,g1,by omega,z1⟩
  ·simp(maxSteps:=1000000)(disch:=omega)only[push_cast,hal,h0,h3,h4,h5,h6,hx,cc,dUn,Bool.not_true,FS,↓WX,simprocAttr]
   exact⟨_,_,rfl,hg,by omega,hfz⟩
 clear hal h0 h3 h4 h5 h6 a
 rintro a V' ⟨⟨d1,fs1,h3,g1,l1,z1⟩,hal,h0,h4,h5,h6⟩
 refine wc_scut (fun a V'=>FS V' a[3]? (3*i+2) 30∧a.length=74∧a[0]? =some (.sl 2 (l.map encPc) lx)∧a[4]? =some (.int .i64 i)∧a[5]? =some (.str at0)) ?_ ?_
 ·obtain⟨d2,T2,fs2,p2,q2,g2,l2,z2,k2⟩:=app_s g1 (by omega) z1 b 6 at0 hat
  cases b
  ·simp(maxSteps:=1000000)(disch:=omega)only[push_cast,hal,h0,h3,h4,h5,h6,FS,↓WX,simprocAttr]
   exact⟨_,_,rfl,g1,by omega,z1⟩
  ·replace p2:=p2 rfl
   simp(maxSteps:=1000000)(disch:=omega)only[push_cast,hal,h0,h3,h4,h5,h6,p2,FS,↓WX,simprocAttr]
   exact⟨_,_,rfl,g2,by omega,z2⟩
 clear hal h0 h3 h4 h5 h6 a
 rintro a V' ⟨⟨d2,fs2,h3,g2,l2,z2⟩,hal,h0,h4,h5⟩
 obtain⟨d3,T3,fs3,p3,q3,g3,l3,z3,k3⟩:=app_s g2 (by omega) z2 true 2 at0 hat
 replace p3:=p3 rfl
 by_cases c1:x.2<0
 ·simp(maxSteps:=1000000)(disch:=omega)only[push_cast,hal,h0,h3,h4,h5,hlt,hx,c1,p3,FS,wrap_ok,Int.natCast_add,Int.natCast_one,↓WX,simprocAttr]
  exact⟨_,_,rfl,g3,by omega,z3⟩
 by_cases c2:1000<x.2
 ·simp(maxSteps:=1000000)(disch:=omega)only[push_cast,gt_iff_lt,hal,h0,h3,h4,h5,hlt,hx,c1,c2,p3,FS,wrap_ok,Int.natCast_add,Int.natCast_one,↓WX,simprocAttr]
  exact⟨_,_,rfl,g3,by omega,z3⟩
 simp(maxSteps:=1000000)(disch:=omega)only[push_cast,gt_iff_lt,hal,h0,h3,h4,hlt,hx,c1,c2,FS,wrap_ok,Int.natCast_add,Int.natCast_one,↓WX,simprocAttr]
 exact⟨_,_,rfl,g2,by omega,z2⟩
theorem percents21_c {l:List (ByteArray×Int)} {lx:Bool} (hl:l.length≤1048576) (hz:∀p∈l,p.1.size≤1048576) (hn:1048701≤n):∃d,FR d (3*l.length) 30∧∀st S,callD E (dcall E n) st S 102 [.sl 2 (l.map encPc) lx]=some (d,S):=by
 obtain⟨m,rfl⟩:∃m,n=m+1:=⟨n-1,by omega⟩
 obtain⟨d,T,ho,fs,hg,h1,h2⟩:=percents21_d (n:=m) (lx:=lx) hl hz (by omega)
 obtain⟨d',f,hf⟩:=GL_fz hg
 exact⟨d',⟨fs,hf,h1,h2⟩,fun st S=>callD_pure rfl (by simp[pureL_cons,pureL_nil,D.pure,encPc_pure]) ho f⟩
end
end Go.Proofs.YtkemehicndccmaaGreatDoor.Dm
namespace Go.Proofs.YtkemehicndccmaaGreatDoor.Dm
open Go Gw
set_option linter.unusedSimpArgs false
set_option linter.unusedSimpArgs false
abbrev encLk (p:ByteArray×ByteArray):List D:=[.str p.1,.str p.2]
theorem encLk_pure (l:List (ByteArray×ByteArray)):pureLL (l.map encLk)=true:=by
 induction l with
 |nil=>rfl
 |cons f fs ih=>rw[List.map_cons,pureLL_cons,ih];rfl
def linkT:ByteArray:=ByteArray.mk #[108,105,110,107,32]
section
variable {n : Nat}
set_option maxHeartbeats 2000000 in
theorem Link22_c {l:List (ByteArray×ByteArray)} {lx:Bool} (hl:l.length≤1048576) (hn:1048580≤n) (s u:ByteArray):∃v:Int,∀st S,callD E (dcall E n) st S 103 [.sl 2 (l.map encLk) lx,.str s,.str u]=some (.int .i64 v,S):=by
 obtain⟨m,rfl⟩:∃m,n=m+1:=⟨n-1,by omega⟩
 have:WO (dcall E (m+1) 103 [.sl 2 (l.map encLk) lx,.str s,.str u] []) fun r T=>∃v:Int,r=.int .i64 v:=by
  refine wo_dcall Tryz.func103 rfl (by decide) rfl 31 rfl (fun a hal ha=>?_)
  have h0:a[0]? =some (.sl 2 (l.map encLk) lx):=ha 0 (by simp)
  have h1:a[1]? =some (.str s):=ha 1 (by simp)
  have h2:a[2]? =some (.str u):=ha 2 (by simp)
  clear ha
  simp(maxSteps:=1000000)(disch:=omega)only[push_cast,↓WX,simprocAttr]
  refine wl_loop (fun i a T=>a.length=31∧a[0]? =some (.sl 2 (l.map encLk) lx)∧a[1]? =some (.str s)∧a[2]? =some (.str u)∧a[7]? =some (.int .i64 i)) l.length ?_ (by omega) ?_
  ·simp(maxSteps:=1000000)(disch:=omega)only[push_cast,hal,h0,h1,h2,Int.natCast_zero,simprocAttr]
  clear hal h0 h1 h2 a
  rintro i a T hi ⟨hal,h0,h1,h2,h7⟩
  rcases Nat.lt_or_eq_of_le hi with hlt |rfl
  case inr=>
   simp(maxSteps:=1000000)(disch:=omega)only[push_cast,hal,h0,h7,Int.lt_irrefl,Tryz.f103,↓WX,simprocAttr]
   exact⟨_,rfl⟩
  obtain⟨x,hx⟩:∃x,l[i]? =some x:=⟨l[i],by simp⟩
  have hltc:(i:Int)<l.length:=by omega
  by_cases q:x.1=s
  ·by_cases q2:x.2=u
   ·simp(maxSteps:=1000000)(disch:=omega)only[push_cast,hal,h0,h1,h2,h7,hltc,hx,q,q2,str_eq,Tryz.f103,↓WX,simprocAttr]
    exact⟨_,rfl⟩
   ·simp(maxSteps:=1000000)(disch:=omega)only[push_cast,hal,h0,h1,h2,h7,hltc,hlt,hx,q,q2,str_eq,wrap_ok,Int.natCast_add,Int.natCast_one,↓WX,simprocAttr]
  ·simp(maxSteps:=1000000)(disch:=omega)only[push_cast,hal,h0,h1,h2,h7,hltc,hlt,hx,q,str_eq,wrap_ok,Int.natCast_add,Int.natCast_one,↓WX,simprocAttr]
 obtain⟨_,T,ho,v,rfl⟩:=this
 exact⟨v,fun st S=>callD_pure rfl (by simp[pureL_cons,pureL_nil,D.pure,encLk_pure]) ho rfl⟩
end
end Go.Proofs.YtkemehicndccmaaGreatDoor.Dm
namespace Go.Proofs.YtkemehicndccmaaGreatDoor.Dm
open Go Gw
set_option linter.unusedSimpArgs false

theorem any_take {α:Type} {p:α→Bool} {l:List α} {k:Nat} {q:α} (h:l[k]? =some q):(l.take (k+1)).any p=((l.take k).any p || p q):=by
 rw[List.take_add_one,List.any_append,h];simp
def CnR (n:Nat) (c:Cnn):Prop:=(c.a.size+10<n∧c.i.size+10<n∧c.o.size+10<n)∧c.a.size≤9223372036854775807∧c.i.size≤9223372036854775807∧c.o.size≤9223372036854775807
set_option maxHeartbeats 8000000 in
set_option maxRecDepth 100000 in
theorem ref_Check_d {n:Nat} {l:List Cnn} {x:Bool} (hl:l.length≤100) (hn:200≤n) (hz:∀c∈l,CnR n c):
  WO (dcall E (n+1) 15 [.sl 4 (l.map Cnn.enc) x] []) fun d T=>GV T d (conL l l.length):=by
 refine wo_dcall Tryz.func15 rfl (by decide) rfl 114 rfl (fun a hal ha=>?_)
 have h0:a[0]? =some (.sl 4 (l.map Cnn.enc) x):=ha 0 (by simp)
 clear ha
 simp(maxSteps:=1000000)(disch:=omega)only[push_cast,↓WX,simprocAttr]
 refine wl_loop (fun i a T=>a.length=114∧a[0]? =some (.sl 4 (l.map Cnn.enc) x)∧a[4]? =some (.int .i64 i)∧Gr T a 3 (conL l i)) l.length ?_ (by omega) ?_
 ·simp(maxSteps:=1000000)(disch:=omega)only[push_cast,hal,h0,Int.natCast_zero,simprocAttr]
  exact⟨_,by simp only[push_cast,hal,simprocAttr],.inl ⟨rfl,rfl⟩⟩
 clear hal h0 a
 rintro i a T hi ⟨hal,h0,h4,d,h3,hg⟩
 have hlen:=conL_len l i
 rcases Nat.lt_or_eq_of_le hi with hlt |rfl
 case inr=>
  simp(maxSteps:=1000000)(disch:=omega)only[push_cast,hal,h0,h3,h4,Nat.lt_irrefl,Tryz.f15,↓WX,simprocAttr]
  exact hg
 obtain⟨c,hc⟩:∃c,l[i]? =some c:=⟨l[i],by simp[hlt]⟩
 obtain⟨⟨z1,z2,z3⟩,y1,y2,y3⟩:=hz c (List.mem_of_getElem? hc)
 have ci:=rdec2_c (n:=n) (by omega) (i:=i) (by omega)
 have tA:=rAirport_c (n:=n) (s:=c.a) (by omega) y1
 have tB:=rCarrier_c (n:=n) (s:=c.i) (by omega) y2
 have tC:=rCarrier_c (n:=n) (s:=c.o) (by omega) y3
 have hmx:=con_max i
 have hca:c.enc=[.str c.a,.str c.i,.str c.o,.int .i64 c.m]:=rfl
 refine wc_scut (fun a T'=>T'=T∧a.length=114∧a[0]? =some (.sl 4 (l.map Cnn.enc) x)∧a[3]? =some (d)∧a[4]? =some (.int .i64 i)) ?_ ?_
 ·simp(maxSteps:=1000000)(disch:=omega)only[push_cast,hal,h0,h3,h4,hlt,↓WX,simprocAttr]
 clear hal h0 h3 h4 a
 rintro a T' ⟨rfl,hal,h0,h3,h4⟩
 refine wc_scut (fun a T=>a.length=114∧a[0]? =some (.sl 4 (l.map Cnn.enc) x)∧a[4]? =some (.int .i64 i)∧Gr T a 3 (conL l (i+1))) ?_ ?_
 case refine_2=>
  clear hal h0 h3 h4 hg a
  rintro a T ⟨hal,h0,h4,d,h3,hg⟩
  simp(maxSteps:=1000000)(disch:=omega)only[push_cast,hal,h0,h4,wrap_ok,Int.natCast_add,Int.natCast_one,↓WX,simprocAttr]
  exact⟨hlt,_,by simp only[push_cast,h3,simprocAttr],hg⟩
 rw[show conL l (i+1)=conL l i++conF i (l.take i) c by rw[conL,hc]]
 unfold conF
 rw[wc_block]
 refine wc_scut (fun a T=>a.length=114∧a[0]? =some (.sl 4 (l.map Cnn.enc) x)∧a[3]? =some (d)∧a[4]? =some (.int .i64 i)∧a[5]? =some (.loc T'.length 0 0)∧T=T'++[.row 4 [c.enc]]) ?_ ?_
 ·simp(maxSteps:=1000000)(disch:=omega)only[push_cast,hal,h0,h3,h4,hc,hca,get_end,set_end,↓WX,simprocAttr]
 clear hal h0 h3 h4 a
 have hg:=hg.push (.row 4 [c.enc])
 have hck:(T'++[Ob.row 4 [c.enc]])[T'.length]? =some (.row 4 [c.enc]):=get_end
 generalize T'.length=ck at*
 generalize T'++[Ob.row 4 [c.enc]]=T0 at*
 rintro a T' ⟨hal,h0,h3,h4,h5,rfl⟩
 generalize hq:conS i=q at*
 refine wc_scut (fun a T=>T=T'∧a.length=114∧a[0]? =some (.sl 4 (l.map Cnn.enc) x)∧a[3]? =some (d)∧a[4]? =some (.int .i64 i)∧a[5]? =some (.loc ck 0 0)∧a[6]? =some (.str q)) ?_ ?_
 ·unfold conS at hq
  simp(maxSteps:=1000000)(disch:=omega)only[push_cast,gt_iff_lt,hal,h0,h3,h4,h5,ci,hmx,hq,↓WX,simprocAttr]
 clear hal h0 h3 h4 h5 a
 rintro a T ⟨rfl,hal,h0,h3,h4,h5,h6⟩
 generalize hb1:badC c=b1
 unfold badC eqS emp at hb1
 refine wc_scut (fun a T=>a.length=114∧a[0]? =some (.sl 4 (l.map Cnn.enc) x)∧a[4]? =some (.int .i64 i)∧a[5]? =some (.loc ck 0 0)∧a[6]? =some (.str q)∧T[ck]? =some (.row 4 [c.enc])∧Gr T a 3 (conL l i++ifF b1 5 q)) ?_ ?_
 ·obtain⟨W,hW,hgW,hkW,-⟩:=app_g hg (by omega) 5 q
  have hck':=hkW _ _ _ (by decide) hck
  rw[hca]at hck hck' ⊢
  generalize ea:(c.a.toList == (ByteArray.mk #[]).toList)=a1 at hb1
  generalize ei:(c.i.toList == (ByteArray.mk #[]).toList)=i1 at hb1
  generalize eo:(c.o.toList == (ByteArray.mk #[]).toList)=o1 at hb1
  generalize lettS c.a 3=a2 at*
  generalize carS c.i=i2 at*
  generalize carS c.o=o2 at*
  cases a1 <;> cases a2 <;> cases i1 <;> cases i2 <;> cases o1 <;> cases o2 <;> replace hb1:=hb1.symm <;> simp only[Bool.not_true,Bool.not_false,Bool.or_true,Bool.or_false]at hb1 <;> subst hb1 <;>
  ·simp(maxSteps:=1000000)(disch:=omega)only[push_cast,hal,h0,h3,h4,h5,h6,hck,hck',ea,ei,eo,tA,tB,tC,hW,↓WX,simprocAttr]
   first
   |exact⟨_,by simp only[push_cast,hal,simprocAttr],hgW⟩
   |exact⟨d,by simp only[push_cast,h3,simprocAttr],by rw[ifF,if_neg (by simp),List.append_nil];exact hg⟩
 clear hal h0 h3 h4 h5 h6 hg hck a T
 rintro a T ⟨hal,h0,h4,h5,h6,hck,d,h3,hg⟩
 have hl1:(conL l i++ifF b1 5 q).length≤3*i+1:=by
  have:=ifF_len b1 5 q
  rw[List.length_append];omega
 rw[←List.append_assoc,←List.append_assoc]
 generalize conL l i++ifF b1 5 q=f1 at*
 generalize hb2:outC c=b2
 unfold outC at hb2
 refine wc_scut (fun a T=>a.length=114∧a[0]? =some (.sl 4 (l.map Cnn.enc) x)∧a[4]? =some (.int .i64 i)∧a[5]? =some (.loc ck 0 0)∧a[6]? =some (.str q)∧T[ck]? =some (.row 4 [c.enc])∧Gr T a 3 (f1++ifF b2 2 q)) ?_ ?_
 ·obtain⟨W,hW,hgW,hkW,-⟩:=app_g hg (by omega) 2 q
  have hck':=hkW _ _ _ (by decide) hck
  rw[hca]at hck hck' ⊢
  by_cases e1:c.m<0
  ·obtain rfl:true=b2:=by rw[←hb2];simp[e1]
   simp(maxSteps:=1000000)(disch:=omega)only[push_cast,hal,h0,h3,h4,h5,h6,hck,hck',e1,hW,↓WX,simprocAttr]
   exact⟨_,by simp only[push_cast,hal,simprocAttr],hgW⟩
  by_cases e2:1440<c.m
  ·obtain rfl:true=b2:=by rw[←hb2];simp[e2]
   simp(maxSteps:=1000000)(disch:=omega)only[push_cast,gt_iff_lt,hal,h0,h3,h4,h5,h6,hck,hck',e1,e2,hW,↓WX,simprocAttr]
   exact⟨_,by simp only[push_cast,hal,simprocAttr],hgW⟩
  obtain rfl:false=b2:=by rw[←hb2];simp[e1,e2]
  simp(maxSteps:=1000000)(disch:=omega)only[push_cast,gt_iff_lt,hal,h0,h4,h5,h6,hck,e1,e2,↓WX,simprocAttr]
  exact⟨d,by simp only[push_cast,h3,simprocAttr],by rw[ifF,if_neg (by simp),List.append_nil];exact hg⟩
 clear hal h0 h3 h4 h5 h6 hg hck a T
 rintro a T ⟨hal,h0,h4,h5,h6,hck,d,h3,hg⟩
 have hl2:(f1++ifF b2 2 q).length≤3*i+2:=by
  have:=ifF_len b2 2 q
  rw[List.length_append];omega
 generalize f1++ifF b2 2 q=f2 at*
 refine wc_scut (fun a T'=>T'=T∧a.length=114∧a[0]? =some (.sl 4 (l.map Cnn.enc) x)∧a[3]? =some (d)∧a[4]? =some (.int .i64 i)∧a[5]? =some (.loc ck 0 0)∧a[6]? =some (.str q)∧a[7]? =some (.bool false)) ?_ ?_
 ·simp(maxSteps:=1000000)(disch:=omega)only[push_cast,hal,h0,h3,h4,h5,h6,↓WX,simprocAttr]
 clear hal h0 h3 h4 h5 h6 a
 rintro a T' ⟨rfl,hal,h0,h3,h4,h5,h6,h7⟩
 refine wc_scut (fun a T=>T=T'∧a.length=114∧a[0]? =some (.sl 4 (l.map Cnn.enc) x)∧a[3]? =some (d)∧a[4]? =some (.int .i64 i)∧a[5]? =some (.loc ck 0 0)∧a[6]? =some (.str q)∧a[7]? =some (.bool ((l.take i).any (sameC c)))) ?_ ?_
 ·simp(maxSteps:=1000000)(disch:=omega)only[push_cast,↓WX,simprocAttr]
  refine wl_loop (fun k a T=>T=T'∧a.length=114∧a[0]? =some (.sl 4 (l.map Cnn.enc) x)∧a[3]? =some (d)∧a[4]? =some (.int .i64 i)∧a[5]? =some (.loc ck 0 0)∧a[6]? =some (.str q)∧a[7]? =some (.bool ((l.take k).any (sameC c)))∧a[8]? =some (.int .i64 k)) i ?_ (by omega) ?_
  ·simp(maxSteps:=1000000)(disch:=omega)only[push_cast,hal,h0,h3,h4,h5,h6,h7,List.take_zero,Int.natCast_zero,simprocAttr]
  clear hal h0 h3 h4 h5 h6 h7 a
  rintro k a T hk ⟨rfl,hal,h0,h3,h4,h5,h6,h7,h8⟩
  rcases Nat.lt_or_eq_of_le hk with hkl |rfl
  case inr=>simp(maxSteps:=1000000)(disch:=omega)only[push_cast,hal,h0,h3,h4,h5,h6,h7,h8,Int.lt_irrefl,↓WX,simprocAttr]
  obtain⟨p,hp⟩:∃p,l[k]? =some p:=⟨l[k],by simp[Nat.lt_trans hkl hlt]⟩
  have hkn:k<l.length:=Nat.lt_trans hkl hlt
  have hat:(l.take (k+1)).any (sameC c)=((l.take k).any (sameC c) || sameC c p):=any_take hp
  generalize (l.take k).any (sameC c)=b at*
  generalize hs:sameC c p=sp at hat
  unfold sameC at hs
  rw[hca]at hck
  cases b
  ·cases e1:(p.a.toList == c.a.toList)
   ·obtain rfl:false=sp:=by rw[←hs,e1];rfl
    simp(maxSteps:=1000000)(disch:=omega)only[push_cast,hal,h0,h3,h4,h5,h6,h7,h8,hkl,hp,hck,hat,e1,Cnn.enc,wrap_ok,Bool.false_or,Bool.false_and,Int.natCast_add,Int.natCast_one,↓WX,simprocAttr]
   cases e2:(p.i.toList == c.i.toList)
   ·obtain rfl:false=sp:=by rw[←hs,e1,e2];rfl
    simp(maxSteps:=1000000)(disch:=omega)only[push_cast,hal,h0,h3,h4,h5,h6,h7,h8,hkl,hp,hck,hat,e1,e2,Cnn.enc,wrap_ok,Bool.false_or,Bool.true_and,Bool.false_and,Int.natCast_add,Int.natCast_one,↓WX,simprocAttr]
   cases e3:(p.o.toList == c.o.toList)
   ·obtain rfl:false=sp:=by rw[←hs,e1,e2,e3];rfl
    simp(maxSteps:=1000000)(disch:=omega)only[push_cast,hal,h0,h3,h4,h5,h6,h7,h8,hkl,hp,hck,hat,e1,e2,e3,Cnn.enc,wrap_ok,Bool.false_or,Bool.true_and,Int.natCast_add,Int.natCast_one,↓WX,simprocAttr]
   ·obtain rfl:true=sp:=by rw[←hs,e1,e2,e3];rfl
    simp(maxSteps:=1000000)(disch:=omega)only[push_cast,hal,h0,h3,h4,h5,h6,h7,h8,hkl,hp,hck,hat,e1,e2,e3,Cnn.enc,wrap_ok,Bool.false_or,Bool.true_and,Int.natCast_add,Int.natCast_one,↓WX,simprocAttr]
  ·simp(maxSteps:=1000000)(disch:=omega)only[push_cast,hal,h0,h3,h4,h5,h6,h7,h8,hkl,hat,wrap_ok,Bool.true_or,Int.natCast_add,Int.natCast_one,↓WX,simprocAttr]
 clear hal h0 h3 h4 h5 h6 h7 a
 rintro a T ⟨rfl,hal,h0,h3,h4,h5,h6,h7⟩
 generalize (l.take i).any (sameC c)=b3 at*
 cases b3
 ·simp(maxSteps:=1000000)(disch:=omega)only[push_cast,hal,h0,h4,h7,↓WX,simprocAttr]
  exact⟨d,by simp only[push_cast,h3,simprocAttr],by rw[ifF,if_neg (by simp),List.append_nil];exact hg⟩
 ·obtain⟨W,hW,hgW,-,-⟩:=app_g hg (by omega) 6 q
  simp(maxSteps:=1000000)(disch:=omega)only[push_cast,hal,h0,h3,h4,h6,h7,hW,↓WX,simprocAttr]
  exact⟨_,by simp only[push_cast,hal,simprocAttr],hgW⟩
end Go.Proofs.YtkemehicndccmaaGreatDoor.Dm
