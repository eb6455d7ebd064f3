/-
  The combinations of classes on sale: the program's and the reference's are one list.
  The program's combinations of classes on sale.
-/
import Derived.Test.YtkemehicndccmaaGreatDoorShC
set_option linter.unusedSimpArgs false
set_option linter.unusedVariables false
namespace Go.Proofs.YtkemehicndccmaaGreatDoor.Dm
open Go Gw
set_option linter.unusedSimpArgs false
set_option linter.unusedSimpArgs false
/-! ### Plain -/
def pickN (n:Int) (b:List ByteArray) (l:List (ByteArray×Int)):List (List ByteArray):=l.filterMap fun c=>if n≤c.2 then some (b++[c.1]) else none
def stepC (n:Int) (out:List (List ByteArray)) (l:List (ByteArray×Int)):List (List ByteArray):=out.flatMap fun b=>pickN n b l
def cmbF (s:Stk) (n:Int) (cv:List (List Lid)):List (List ByteArray):=cv.foldl (fun out ids=>stepC n out (allF s ids)) [[]]
theorem pickN_succ {n:Int} {b:List ByteArray} {l:List (ByteArray×Int)} {i:Nat} {c:ByteArray×Int} (h:l[i]? =some c):pickN n b (l.take (i+1))=pickN n b (l.take i)++if n≤c.2 then [b++[c.1]] else []:=by
 unfold pickN
 rw[List.take_add_one,h,Option.toList_some,List.filterMap_append]
 congr 1
 by_cases q:n≤c.2 <;> simp[q]
theorem stepC_succ {n:Int} {out:List (List ByteArray)} {l:List (ByteArray×Int)} {i:Nat} {b:List ByteArray} (h:out[i]? =some b):stepC n (out.take (i+1)) l=stepC n (out.take i) l++pickN n b l:=by
 unfold stepC
 rw[List.take_add_one,h,Option.toList_some,List.flatMap_append]
 simp
theorem cmbF_succ {s:Stk} {n:Int} {cv:List (List Lid)} {i:Nat} {ids:List Lid} (h:cv[i]? =some ids):cmbF s n (cv.take (i+1))=stepC n (cmbF s n (cv.take i)) (allF s ids):=by
 unfold cmbF
 rw[List.take_add_one,h,Option.toList_some,List.foldl_append]
 rfl
theorem pickN_len (n:Int) (b:List ByteArray) (l:List (ByteArray×Int)):(pickN n b l).length≤l.length:=List.length_filterMap_le _ _
theorem stepC_len {n:Int} {l:List (ByteArray×Int)} (hl:l.length≤1000):∀out:List (List ByteArray),(stepC n out l).length≤1000*out.length
 | []=>Nat.zero_le _
 |b::out=>by
  have h1:=stepC_len (n:=n) hl out
  have h2:=pickN_len n b l
  unfold stepC at h1 ⊢
  rw[List.flatMap_cons,List.length_append,List.length_cons]
  omega
theorem cmbF_len {s:Stk} (ok:StkOk 9999 s) (n:Int) (cv:List (List Lid)):∀i,i≤cv.length→(cmbF s n (cv.take i)).length≤1000 ^ i
 |0,_=>by simp[cmbF]
 |i+1,hi=>by
  have h1:=cmbF_len ok n cv i (by omega)
  rw[cmbF_succ (List.getElem?_eq_getElem (show i<cv.length by omega))]
  refine Nat.le_trans (stepC_len (allF_len ok _) _) ?_
  rw[Nat.pow_succ,Nat.mul_comm]
  exact Nat.mul_le_mul_right 1000 h1
/-! ### Lists of lists -/
abbrev encW (s:ByteArray):List D:=[.str s]
abbrev encV (v:D×List ByteArray):List D:=[v.1]
def ElE (T:List Ob) (e:D) (bs:List ByteArray):Prop:=(e=.nils∧bs=[])∨(bs≠[]∧∃q,e=.os q 0 bs.length false∧T[q]? =some (.row 1 (bs.map encW)))
theorem ElE.ext {T U:List Ob} {e:D} {bs:List ByteArray} (h:ElE T e bs) (x:ExtS T U):ElE U e bs:=by
 rcases h with h | ⟨h1,q,h2,h3⟩
 ·exact .inl h
 ·exact .inr ⟨h1,q,h2,x _ _ h3⟩
theorem ElE.one {T:List Ob} {e:D} {bs:List ByteArray} (h:ElE T e bs):e.one=true:=by
 rcases h with ⟨rfl,-⟩ | ⟨-,q,rfl,-⟩ <;> rfl
structure OL (B:Nat) (T:List Ob) (d:D) (outs:List (D×List ByteArray)):Prop where
 gl:GL 1 encV T d outs
 el:∀v∈outs,ElE T v.1 v.2
 own:∀k n,d=.os k 0 n false→B≤k
theorem OL.nil {B:Nat} {T:List Ob}:OL B T .nils []:=⟨GL.nil,(fun v h=>by cases h),fun k n h=>by cases h⟩
theorem OL.ext {B:Nat} {T U:List Ob} {d:D} {outs:List (D×List ByteArray)} (h:OL B T d outs) (x:ExtS T U):OL B U d outs:=⟨h.gl.ext x,fun v hv=>(h.el v hv).ext x,h.own⟩
theorem app_ol {B:Nat} {T:List Ob} {d e:D} {outs:List (D×List ByteArray)} {bs:List ByteArray} (h:OL B T d outs) (hB:B≤T.length) (hv:ElE T e bs) (hl:outs.length<1000000000):
  ∃d' T',dAppend Tryz.prog T 55 55 d (.sl 1 [[e]] true)=some (d',T')∧OL B T' d' (outs++[(e,bs)])∧(∀k o,k<B→T[k]? =some o→T'[k]? =some o)∧KeepN 1 T T'∧T.length≤T'.length:=by
 have hbt:bytesT Tryz.prog 58≤1000:=Nat.le_of_ble_eq_true (by kernel_rfl)
 obtain⟨S',h1,h2,h3,h4,h5⟩:=app_glB (t:=55) (e:=58) (z:=.nils) (n:=0) (by kernel_rfl) (by kernel_rfl) (by kernel_rfl) rfl (Nat.le_trans (Nat.mul_le_mul (show outs.length+1≤1000000001 by omega) hbt) (by decide)) (by unfold maxLen;omega) h.gl (e,bs)
 have keep:∀w ws,ElE T w ws→ElE S' w ws:=fun w ws hw=>by
  rcases hw with hw | ⟨g1,q,g2,g3⟩
  ·exact .inl hw
  ·refine .inr ⟨g1,q,g2,h4 q _ (fun n hd=>?_) g3⟩
   rcases h.gl with ⟨e1,-⟩ | ⟨k,e1,e2⟩
   ·rw[hd]at e1;cases e1
   ·rw[hd]at e1
    injection e1 with e1 _ e3 _
    subst e1
    rw[g3]at e2
    injection e2 with e2
    injection e2 with _ e2
    cases ws with
    |nil=>exact g1 rfl
    |cons w0 ws=>
     cases houts:outs with
     |nil=>rw[houts]at e2;simp at e2
     |cons v vs=>
      have hv0:=h.el v (by rw[houts];simp)
      rw[houts,List.map_cons,List.map_cons]at e2
      injection e2 with e2 _
      injection e2 with e2 _
      rcases hv0 with ⟨f1,-⟩ | ⟨-,q',f1,-⟩
      ·rw[f1]at e2;cases e2
      ·rw[f1]at e2;cases e2
 refine⟨_,S',h1,⟨h2,fun v hm=>?_,fun k n e=>?_⟩,fun k o hk ho=>h4 k o (fun n hd=>?_) ho,h5,by rw[h3];omega⟩
 ·rcases List.mem_append.1 hm with hm |hm
  ·exact keep _ _ (h.el v hm)
  ·obtain rfl:v=(e,bs):=by simpa using hm
   exact keep _ _ hv
 ·have e1:=(D.os.inj e).1
  rw[←e1]
  exact hB
 ·have:=h.own k n hd
  omega
theorem cmbF_el {s:Stk} {n:Int} {cv:List (List Lid)}:∀i,i≤cv.length→∀b∈cmbF s n (cv.take i),b.length=i
 |0,_,b,h=>by
  have:b=[]:=by simpa [cmbF] using h
  rw[this];rfl
 |i+1,hi,b,h=>by
  rw[cmbF_succ (List.getElem?_eq_getElem (show i<cv.length by omega))]at h
  unfold stepC pickN at h
  obtain⟨b0,h0,h1⟩:=List.mem_flatMap.1 h
  obtain⟨c,hc,h2⟩:=List.mem_filterMap.1 h1
  have:=cmbF_el i (by omega) b0 h0
  by_cases q:n≤c.2
  ·rw[if_pos q]at h2
   cases h2
   simp[this]
  ·rw[if_neg q]at h2;cases h2
def LZ {α:Type} (sz:Nat) (enc:α→List D) (S:List Ob) (d:D) (l:List α):Prop:=(d=.nils∧l=[])∨(∃x,d=.sl sz (l.map enc) x)∨∃k,d=.os k 0 l.length false∧S[k]? =some (.row sz (l.map enc))
theorem GL.lz {α:Type} {sz:Nat} {enc:α→List D} {S:List Ob} {d:D} {l:List α} (h:GL sz enc S d l):LZ sz enc S d l:=h.elim .inl fun h=>.inr (.inr h)
theorem LZ.ext {α:Type} {sz:Nat} {enc:α→List D} {S T:List Ob} {d:D} {l:List α} (h:LZ sz enc S d l) (g:ExtS S T):LZ sz enc T d l:=by
 rcases h with h |h | ⟨k,h1,h2⟩
 ·exact .inl h
 ·exact .inr (.inl h)
 ·exact .inr (.inr ⟨k,h1,g _ _ h2⟩)
theorem len_ls {α:Type} {sz:Nat} {enc:α→List D} {S:List Ob} {d:D} {l:List α} {t e:TypeId} (ht:Tryz.prog.underlying t=some (.slice e)) (h:LZ sz enc S d l):dLen Tryz.prog S t d=some (.int .i64 l.length):=by
 unfold dLen
 rw[ht]
 rcases h with ⟨rfl,rfl⟩ | ⟨x,rfl⟩ | ⟨k,rfl,-⟩
 ·rfl
 ·dsimp only
  rw[List.length_map]
 ·rfl
abbrev encCv (v:D×List Lid):List D:=[v.1]
section
variable {n : Nat}
theorem el_str:elemT Tryz.prog 58=some 9:=by kernel_rfl
theorem sz_str:sizeT Tryz.prog 9=some 1:=by kernel_rfl
theorem ze_str:zeroT Tryz.prog 9=some (.str (ByteArray.mk #[])):=by kernel_rfl
theorem by_str:bytesT Tryz.prog 9≤1000:=Nat.le_of_ble_eq_true (by kernel_rfl)
theorem app_lit {T:List Ob} {x:D} {bs:List ByteArray} (hne:bs≠[]) (hl:bs.length≤1000) (hx:srcOf T 1 x=some (bs.map encW)):dAppend Tryz.prog T 58 58 (.sl 1 [] true) x=some (.os T.length 0 bs.length false,T++[.row 1 (bs.map encW)]):=by
 have h1:=el_str
 have h2:=sz_str
 have h3:=ze_str
 have h4:(D.str (ByteArray.mk #[])).cells.length=1:=rfl
 have h0:srcOf T 1 (.sl 1 [] true)=some []:=by simp[srcOf]
 have hxz:bs.length≠0:=fun e=>hne (List.eq_nil_of_length_eq_zero e)
 have hm:(bs.length≤maxLen)=True:=eq_true (by unfold maxLen;omega)
 have hb:(bs.length*bytesT Tryz.prog 9≤140737488355328)=True:=eq_true (Nat.le_trans (Nat.mul_le_mul hl by_str) (by decide))
 simp only[dAppend,h1,h2,h3,h4,h0,hx,hxz,List.length_nil,Nat.zero_add,hm,hb,and_self,↓reduceIte,List.nil_append,List.length_map]
theorem clone_add {T:List Ob} {e:D} {bs:List ByteArray} (hn:1≤n) (h:ElE T e bs) (hl:bs.length≤1000) (c:ByteArray):
  ∃e1 T1 e2 T2,(∀st,callD E (dcall E n) st T 27 [e]=some (e1,T1))∧dAppend Tryz.prog T1 58 58 e1 (.sl 1 [[.str c]] true)=some (e2,T2)∧ElE T2 e2 (bs++[c])∧ExtS T T2:=by
 obtain⟨n,rfl⟩:∃m,n=m+1:=⟨n-1,by omega⟩
 have hne:bs++[c]≠[]:=by simp
 rcases h with ⟨rfl,rfl⟩ | ⟨hne0,q,rfl,hq⟩
 ·have ho:WO (dcall E (n+1) 27 [.nils] T) fun r U=>r=.nils∧U=T++[]:=by
   refine wo_dcall Tryz.func27 rfl (by decide) rfl 8 rfl (fun a hal ha=>?_)
   have h0:a[0]? =some (.nils):=ha 0 (by simp)
   clear ha
   have eqn:dEq Tryz.prog 10000 58 .nils .nils=some true:=by rw[show (10000:Nat)=9999+1 from rfl];simp only[dEq,Tryz.underlying58]
   simp(maxSteps:=1000000)(disch:=omega)only[push_cast,hal,h0,eqn,List.append_nil,Tryz.f27,↓WX,simprocAttr]
  obtain⟨_,_,ho,rfl,rfl⟩:=ho
  have hc:∀st,callD E (dcall E (n+1)) st T 27 [.nils]=some (.nils,T++[]):=fun st=>callD_ext rfl ho
  rw[List.append_nil]at hc
  obtain⟨S',h1,h2,h3,h4,h5⟩:=app_glB (S:=T) (d:=.nils) (l:=[]) (enc:=encW) el_str sz_str ze_str rfl (Nat.le_trans (Nat.mul_le_mul (show ([]:List ByteArray).length+1≤1 by simp) by_str) (by decide)) (by unfold maxLen;simp) GL.nil c
  refine⟨_,_,_,S',hc,h1,?_,fun k o hk=>h4 k o (fun n e=>by cases e) hk⟩
  rcases h2 with ⟨e,-⟩ | ⟨k,e1,e2⟩
  ·cases e
  ·exact .inr ⟨hne,k,e1,e2⟩
 ·have hsrc:srcOf T 1 (.os q 0 bs.length false)=some (bs.map encW):=by
   have hel:(bs.map encW).length=bs.length:=by simp
   simp only[srcOf,hq,hel,Nat.zero_add,Nat.le_refl,and_self,List.drop_zero,↓reduceIte]
   rw[←hel,List.take_length]
  have p0:=app_lit hne0 hl hsrc
  have ho:WO (dcall E (n+1) 27 [.os q 0 bs.length false] T) fun r U=>r=.os T.length 0 bs.length false∧U=T++[.row 1 (bs.map encW)]:=by
   refine wo_dcall Tryz.func27 rfl (by decide) rfl 8 rfl (fun a hal ha=>?_)
   have h0:a[0]? =some (.os q 0 bs.length false):=ha 0 (by simp)
   clear ha
   have eqn:dEq Tryz.prog 10000 58 (.os q 0 bs.length false) .nils=some false:=by rw[show (10000:Nat)=9999+1 from rfl];simp only[dEq,Tryz.underlying58]
   simp(maxSteps:=1000000)(disch:=omega)only[push_cast,hal,h0,eqn,p0,Tryz.f27,↓WX,simprocAttr]
  obtain⟨_,_,ho,rfl,rfl⟩:=ho
  have hc:∀st,callD E (dcall E (n+1)) st T 27 [.os q 0 bs.length false]=some (.os T.length 0 bs.length false,T++[.row 1 (bs.map encW)]):=fun st=>callD_ext rfl ho
  obtain⟨S',h1,h2,h3,h4,h5⟩:=app_glB (S:=T++[.row 1 (bs.map encW)]) (d:=.os T.length 0 bs.length false) (l:=bs) (enc:=encW) el_str sz_str ze_str rfl (Nat.le_trans (Nat.mul_le_mul (show bs.length+1≤1001 by omega) by_str) (by decide)) (by unfold maxLen;omega) (.inr ⟨T.length,rfl,get_end⟩) c
  refine⟨_,_,_,S',hc,h1,?_,fun k o hk=>h4 k o (fun n e=>?_) (get_old hk)⟩
  ·rcases h2 with ⟨e,-⟩ | ⟨k,e1,e2⟩
   ·cases e
   ·refine .inr ⟨hne,k,?_,e2⟩
    rw[e1]
  ·injection e with e1
   have:=(List.getElem?_eq_some_iff.1 hk).1
   omega
theorem copy_add {T:List Ob} {e:D} {bs:List ByteArray} (h:ElE T e bs) (hl:bs.length≤1000) (c:ByteArray):
  ∃e1 T1 e2 T2,dAppend Tryz.prog T 58 58 .nils e=some (e1,T1)∧dAppend Tryz.prog T1 58 58 e1 (.sl 1 [[.str c]] true)=some (e2,T2)∧ElE T2 e2 (bs++[c])∧ExtS T T1∧ExtS T T2:=by
 have hne:bs++[c]≠[]:=by simp
 have hsrc:srcOf T (0+1) e=some (bs.map encW):=by
  rcases h with ⟨rfl,rfl⟩ | ⟨hne0,q,rfl,hq⟩
  ·rfl
  ·have hel:(bs.map encW).length=bs.length:=by simp
   simp only[srcOf,hq,hel,Nat.zero_add,Nat.le_refl,and_self,List.drop_zero,↓reduceIte]
   rw[←hel,List.take_length]
 obtain⟨e1,T1,p1,g1,-,x1⟩:=app_glsB (T:=T) (d:=.nils) (l:=([]:List ByteArray)) (r:=bs) (enc:=encW) (x:=e) el_str sz_str ze_str rfl (Nat.le_trans (Nat.mul_le_mul (show ([]:List ByteArray).length+bs.length≤1000 by simp;omega) by_str) (by decide)) (by unfold maxLen;simp;omega) GL.nil hsrc
 rw[List.nil_append]at g1
 have x1:=x1 rfl
 obtain⟨S',h1,h2,h3,h4,h5⟩:=app_glB (S:=T1) (d:=e1) (l:=bs) (enc:=encW) el_str sz_str ze_str rfl (Nat.le_trans (Nat.mul_le_mul (show bs.length+1≤1001 by omega) by_str) (by decide)) (by unfold maxLen;omega) g1 c
 refine⟨e1,T1,_,S',p1,h1,?_,x1,fun k o hk=>h4 k o (fun n e=>?_) (x1 k o hk)⟩
 ·rcases h2 with ⟨e,-⟩ | ⟨k,e1,e2⟩
  ·cases e
  ·refine .inr ⟨hne,k,?_,e2⟩
   rw[e1]
 ·rcases h with ⟨rfl,rfl⟩ | ⟨hne0,q,rfl,hq⟩
  ·have:e1=.nils∧T1=T:=by
    have h1:=el_str
    have h2:=sz_str
    have h3:=ze_str
    have h4:(D.str (ByteArray.mk #[])).cells.length=1:=rfl
    simp only[dAppend,h1,h2,h3,h4,srcOf,List.length_nil,↓reduceIte,Option.some.injEq,Prod.mk.injEq]at p1
    exact⟨p1.1.symm,p1.2.symm⟩
   rw[this.1]at e
   cases e
  ·have:e1=.os T.length 0 bs.length false:=by
    have h1:=el_str
    have h2:=sz_str
    have h3:=ze_str
    have h4:(D.str (ByteArray.mk #[])).cells.length=1:=rfl
    have h0:srcOf T 1 .nils=some []:=by simp[srcOf]
    have hxz:bs.length≠0:=fun e=>hne0 (List.eq_nil_of_length_eq_zero e)
    have hm:(bs.length≤maxLen)=True:=eq_true (by unfold maxLen;omega)
    have hb:(bs.length*bytesT Tryz.prog 9≤140737488355328)=True:=eq_true (Nat.le_trans (Nat.mul_le_mul hl by_str) (by decide))
    have hsrc:srcOf T 1 (.os q 0 bs.length false)=some (bs.map encW):=hsrc
    simp only[dAppend,h1,h2,h3,h4,h0,hsrc,hxz,List.length_nil,Nat.zero_add,hm,hb,and_self,↓reduceIte,List.length_map,Option.some.injEq,Prod.mk.injEq]at p1
    rw[←p1.1]
   rw[this]at e
   injection e with e1
   have:=(List.getElem?_eq_some_iff.1 hk).1
   omega
end
end Go.Proofs.YtkemehicndccmaaGreatDoor.Dm
namespace Go.Proofs.YtkemehicndccmaaGreatDoor.Dm
open Go Gw
set_option linter.unusedSimpArgs false
set_option linter.unusedSimpArgs false
def OutS (B:Nat) (T:List Ob) (d:D) (outs:List (D×List ByteArray)) (i:Nat):Prop:=(i=0∧d=.sl 1 [[.nils]] true∧outs=[(.nils,[])])∨(0<i∧OL B T d outs)
theorem OutS.lz {B:Nat} {T:List Ob} {d:D} {outs:List (D×List ByteArray)} {i:Nat} (h:OutS B T d outs i):LZ 1 encV T d outs:=by
 rcases h with ⟨-,rfl,rfl⟩ | ⟨-,h⟩
 ·exact .inr (.inl ⟨true,rfl⟩)
 ·exact h.gl.lz
theorem OutS.el {B:Nat} {T:List Ob} {d:D} {outs:List (D×List ByteArray)} {i:Nat} (h:OutS B T d outs i):∀v∈outs,ElE T v.1 v.2:=by
 rcases h with ⟨-,rfl,rfl⟩ | ⟨-,h⟩
 ·intro v hv
  obtain rfl:v=(.nils,[]):=by simpa using hv
  exact .inl ⟨rfl,rfl⟩
 ·exact h.el
theorem OutS.ext {B:Nat} {T U:List Ob} {d:D} {outs:List (D×List ByteArray)} {i:Nat} (h:OutS B T d outs i) (x:ExtS T U):OutS B U d outs i:=by
 rcases h with h | ⟨h1,h2⟩
 ·exact .inl h
 ·exact .inr ⟨h1,h2.ext x⟩
theorem pow3 {i:Nat} (h:i≤2):1000 ^ i≤1000000:=by
 match i,h with
 |0,_=>decide
 |1,_=>decide
 |2,_=>decide
theorem wc_tmpTT {E:Env} {call:Call} {n t:Nat} {x y:Code} {a:List D} {S:List Ob} {Q:PostX} (h:a[t]? =some (.bool true)) (k:WC (codeD E call n x a S) Q):WC (codeD E call n (.cond (.tmp t) x y) a S) Q:=by
 rw[wc_cond,show evD E a (.tmp t)=.bool true by show (a[t]?).getD _=_;rw[h];rfl]
 simpa [pickQ] using k
section
variable {n k m : Nat} {S : List Ob} {lab : Lab} {s : Stk} {ps : List (D × D)}
set_option maxHeartbeats 64000000 in
set_option maxRecDepth 100000 in
theorem Classes_d (hn:3000000≤n) (h:StkAt S lab 1 kL (.loc k 0 0) s k m ps) (ok:StkOk 9999 s) {dc:D} {cv:List (D×List Lid)} (hc:LZ 1 encCv S dc cv) (hcl:cv.length≤1000000) (hcv:∀v∈cv,FLs 4 Lid.enc v.1 v.2∧v.2.length≤20∧∀id∈v.2,id.Ok) (q:Int):
  WO (dcall E (n+1) 9 [.loc k 0 0,dc,.int .i64 q] S) fun r T=>ExtS S T∧∃outs,OL S.length T r outs∧outs.map (·.2)=if 1≤q∧cv≠[]∧cv.length≤3 then cmbF s q (cv.map (·.2)) else []:=by
 have hlen:=len_ls Tryz.underlying48 hc
 simp only[push_cast]at hlen
 refine wo_dcall Tryz.func9 rfl (by decide) rfl 66 rfl (fun a hal ha=>?_)
 have h0:a[0]? =some (.loc k 0 0):=ha 0 (by simp)
 have h1:a[1]? =some (dc):=ha 1 (by simp)
 have h2:a[2]? =some (.int .i64 q):=ha 2 (by simp)
 clear ha
 by_cases b1:q<1
 ·simp(maxSteps:=1000000)(disch:=omega)only[push_cast,ne_eq,hal,h2,b1,Tryz.f9,↓WX,simprocAttr]
  exact⟨fun _ _ h=>h,[],OL.nil,by rw[if_neg (by omega)];rfl⟩
 by_cases b2:(cv.length:Int)<1
 ·simp(maxSteps:=1000000)(disch:=omega)only[push_cast,ne_eq,hal,h1,h2,b1,hlen,b2,Tryz.f9,↓WX,simprocAttr]
  exact⟨fun _ _ h=>h,[],OL.nil,by rw[if_neg (fun h=>h.2.1 (List.eq_nil_of_length_eq_zero (by omega)))];rfl⟩
 by_cases b3:(3:Int)<cv.length
 ·simp(maxSteps:=1000000)(disch:=omega)only[push_cast,gt_iff_lt,ne_eq,hal,h1,h2,b1,hlen,b2,b3,Tryz.f9,↓WX,simprocAttr]
  exact⟨fun _ _ h=>h,[],OL.nil,by rw[if_neg (by omega)];rfl⟩
 have hne:cv≠[]:=fun e=>by rw[e]at b2;simp at b2
 rw[if_pos ⟨by omega,hne,by omega⟩]
 refine wc_scut (fun a V=>V=S∧a.length=66∧a[0]? =some (.loc k 0 0)∧a[1]? =some (dc)∧a[2]? =some (.int .i64 q)) ?_ ?_
 ·simp(maxSteps:=1000000)(disch:=omega)only[push_cast,hal,h0,h1,h2,↓WX,simprocAttr]
 clear hal h0 h1 h2 a
 rintro a V ⟨rfl,hal,h0,h1,h2⟩
 refine wc_scut (fun a W=>W=V∧a.length=66∧a[0]? =some (.loc k 0 0)∧a[1]? =some (dc)∧a[2]? =some (.int .i64 q)) ?_ ?_
 ·simp(maxSteps:=1000000)(disch:=omega)only[push_cast,gt_iff_lt,hal,h0,h1,h2,b1,hlen,b2,b3,↓WX,simprocAttr]
 clear hal h0 h1 h2 a
 rintro a W ⟨rfl,hal,h0,h1,h2⟩
 refine wc_scut (fun a V=>V=W∧a.length=66∧a[0]? =some (.loc k 0 0)∧a[1]? =some (dc)∧a[2]? =some (.int .i64 q)∧a[7]? =some (.sl 1 [[.nils]] true)) ?_ ?_
 ·simp(maxSteps:=1000000)(disch:=omega)only[push_cast,hal,h0,h1,h2,↓WX,simprocAttr]
 clear hal h0 h1 h2 a
 rintro a V ⟨rfl,hal,h0,h1,h2,h7⟩
 refine wc_scut (fun a T=>(ExtS V T∧∃d outs,a[7]? =some d∧OL V.length T d outs∧outs.map (·.2)=cmbF s q (cv.map (·.2)))∧a.length=66) ?_ ?_
 ·simp(maxSteps:=1000000)(disch:=omega)only[push_cast,hal,h1,hlen,↓WX,simprocAttr]
  refine wl_loop (fun i a T=>(ExtS V T∧∃d outs,a[7]? =some d∧OutS V.length T d outs i∧outs.map (·.2)=cmbF s q ((cv.map (·.2)).take i))∧a.length=66∧a[0]? =some (.loc k 0 0)∧a[2]? =some (.int .i64 q)∧a[28]? =some (dc)∧a[29]? =some (.int .i64 cv.length)∧a[30]? =some (.int .i64 i)) cv.length ?_ (by omega) ?_
  ·simp(maxSteps:=1000000)(disch:=omega)only[push_cast,hal,h0,h2,h7,Int.natCast_zero,simprocAttr]
   exact⟨fun _ _ h=>h,_,_,rfl,.inl ⟨rfl,rfl,rfl⟩,by simp[cmbF]⟩
  clear hal h0 h1 h2 h7 a
  rintro i a T hi ⟨⟨hxT,d7,outs,h7,hO,hout⟩,hal,h0,h2,h28,h29,h30⟩
  rcases Nat.lt_or_eq_of_le hi with hlt |rfl
  case inr=>
   simp(maxSteps:=1000000)(disch:=omega)only[push_cast,hal,h7,h29,h30,Int.lt_irrefl,↓WX,simprocAttr]
   rcases hO with ⟨e,-⟩ | ⟨-,hO⟩
   ·omega
   ·exact⟨hxT,_,_,rfl,hO,by rw[hout,List.take_of_length_le (by simp)]⟩
  have hltc:(i:Int)<cv.length:=by omega
  obtain⟨v,hv⟩:∃v,cv[i]? =some v:=⟨cv[i],by simp⟩
  obtain⟨hv1,hv2,hv3⟩:=hcv v (List.mem_of_getElem? hv)
  have hi2:i≤2:=by omega
  have hoL:outs.length≤1000000:=by
   have h1:=cmbF_len ok q (cv.map (·.2)) i (by simp;omega)
   have h2:=pow3 hi2
   have h3:=congrArg List.length hout
   simp only[List.length_map]at h3
   omega
  have hoE:∀w∈outs,w.2.length≤1000:=fun w hw=>by
   have h1:w.2∈cmbF s q ((cv.map (·.2)).take i):=by rw[←hout];exact List.mem_map_of_mem hw
   have:=cmbF_el i (by simp;omega) _ h1
   omega
  have hvs:(cv.map (·.2))[i]? =some v.2:=by rw[List.getElem?_map,hv];rfl
  have hLl:=allF_len ok v.2
  have hStT:=h.keep (lab':=lab) (KeepO.ext hxT)
  have hVT:=hxT.len
  rw[wc_asc]
  refine wc_scut (fun a V'=>V'=T∧a.length=66∧a[0]? =some (.loc k 0 0)∧a[2]? =some (.int .i64 q)∧a[7]? =some (d7)∧a[28]? =some (dc)∧a[29]? =some (.int .i64 cv.length)∧a[30]? =some (.int .i64 i)) ?_ ?_
  ·simp(maxSteps:=1000000)(disch:=omega)only[push_cast,hal,h0,h2,h7,h28,h29,h30,hltc,↓WX,simprocAttr]
  clear hal h0 h2 h7 h28 h29 h30 a
  rintro a T' ⟨rfl,hal,h0,h2,h7,h28,h29,h30⟩
  rw[wc_seq,wc_block]
  refine wc_scut (fun a W=>W=T'∧a.length=66∧a[0]? =some (.loc k 0 0)∧a[2]? =some (.int .i64 q)∧a[7]? =some (d7)∧a[9]? =some (v.1)∧a[28]? =some (dc)∧a[29]? =some (.int .i64 cv.length)∧a[30]? =some (.int .i64 i)) ?_ ?_
  ·have hcT:=hc.ext hxT
   rcases hcT with ⟨rfl,e⟩ | ⟨x,rfl⟩ | ⟨kc,rfl,hkc⟩
   ·exact absurd e hne
   ·simp(maxSteps:=1000000)(disch:=omega)only[push_cast,hal,h0,h2,h7,h28,h29,h30,hv,↓WX,simprocAttr]
   ·simp(maxSteps:=1000000)(disch:=omega)only[push_cast,hal,h0,h2,h7,h28,h29,h30,hkc,hlt,hv,↓WX,simprocAttr]
  clear hal h0 h2 h7 h28 h29 h30 a
  rintro a W ⟨rfl,hal,h0,h2,h7,h9,h28,h29,h30⟩
  refine wc_scut (fun a V'=>V'=W∧a.length=66∧a[0]? =some (.loc k 0 0)∧a[2]? =some (.int .i64 q)∧a[7]? =some (d7)∧a[9]? =some (v.1)∧a[10]? =some (.nils)∧a[28]? =some (dc)∧a[29]? =some (.int .i64 cv.length)∧a[30]? =some (.int .i64 i)) ?_ ?_
  ·simp(maxSteps:=1000000)(disch:=omega)only[push_cast,hal,h0,h2,h7,h9,h28,h29,h30,↓WX,simprocAttr]
  clear hal h0 h2 h7 h9 h28 h29 h30 a
  rintro a T ⟨rfl,hal,h0,h2,h7,h9,h10,h28,h29,h30⟩
  have hl7:=len_ls Tryz.underlying55 hO.lz
  simp only[push_cast]at hl7
  refine wc_scut (fun a U=>(ExtS T U∧∃d nx,a[10]? =some d∧OL T.length U d nx∧nx.map (·.2)=stepC q (outs.map (·.2)) (allF s v.2))∧a.length=66∧a[0]? =some (.loc k 0 0)∧a[2]? =some (.int .i64 q)∧a[28]? =some (dc)∧a[29]? =some (.int .i64 cv.length)∧a[30]? =some (.int .i64 i)) ?_ ?_
  ·simp(maxSteps:=1000000)(disch:=omega)only[push_cast,hal,h7,hl7,↓WX,simprocAttr]
   refine wl_loop (fun j a U=>(ExtS T U∧∃d nx,a[10]? =some d∧OL T.length U d nx∧nx.map (·.2)=stepC q ((outs.map (·.2)).take j) (allF s v.2))∧a.length=66∧a[0]? =some (.loc k 0 0)∧a[2]? =some (.int .i64 q)∧a[9]? =some (v.1)∧a[28]? =some (dc)∧a[29]? =some (.int .i64 cv.length)∧a[30]? =some (.int .i64 i)∧a[34]? =some (d7)∧a[35]? =some (.int .i64 outs.length)∧a[36]? =some (.int .i64 j)) outs.length ?_ (by omega) ?_
   ·simp(maxSteps:=1000000)(disch:=omega)only[push_cast,hal,h0,h2,h9,h10,h28,h29,h30,Int.natCast_zero,simprocAttr]
    exact⟨fun _ _ h=>h,_,_,rfl,OL.nil,by simp[stepC]⟩
   clear hal h0 h2 h7 h9 h10 h28 h29 h30 a
   clear hl7
   rintro j a U hj ⟨⟨hxU,d10,nx,h10,hN,hnx⟩,hal,h0,h2,h9,h28,h29,h30,h34,h35,h36⟩
   rcases Nat.lt_or_eq_of_le hj with hjt |rfl
   case inr=>
    simp(maxSteps:=1000000)(disch:=omega)only[push_cast,hal,h0,h2,h10,h28,h29,h30,h35,h36,Int.lt_irrefl,↓WX,simprocAttr]
    exact⟨hxU,_,_,rfl,hN,by rw[hnx,List.take_of_length_le (by simp)]⟩
   have hjtc:(j:Int)<outs.length:=by omega
   obtain⟨w,hw⟩:∃w,outs[j]? =some w:=⟨outs[j],by simp⟩
   have hwm:=List.mem_of_getElem? hw
   have hwE:=hO.el w hwm
   have hwl:=hoE w hwm
   have hws:(outs.map (·.2))[j]? =some w.2:=by rw[List.getElem?_map,hw];rfl
   rw[wc_asc]
   refine wc_scut (fun a V'=>V'=U∧a.length=66∧a[0]? =some (.loc k 0 0)∧a[2]? =some (.int .i64 q)∧a[9]? =some (v.1)∧a[10]? =some (d10)∧a[28]? =some (dc)∧a[29]? =some (.int .i64 cv.length)∧a[30]? =some (.int .i64 i)∧a[34]? =some (d7)∧a[35]? =some (.int .i64 outs.length)∧a[36]? =some (.int .i64 j)) ?_ ?_
   ·simp(maxSteps:=1000000)(disch:=omega)only[push_cast,hal,h0,h2,h9,h10,h28,h29,h30,h34,h35,h36,hjtc,↓WX,simprocAttr]
   clear hal h0 h2 h9 h10 h28 h29 h30 h34 h35 h36 a
   rintro a V' ⟨rfl,hal,h0,h2,h9,h10,h28,h29,h30,h34,h35,h36⟩
   rw[wc_seq,wc_block]
   refine wc_scut (fun a U=>U=V'∧a.length=66∧a[0]? =some (.loc k 0 0)∧a[2]? =some (.int .i64 q)∧a[9]? =some (v.1)∧a[10]? =some (d10)∧a[12]? =some (w.1)∧a[28]? =some (dc)∧a[29]? =some (.int .i64 cv.length)∧a[30]? =some (.int .i64 i)∧a[34]? =some (d7)∧a[35]? =some (.int .i64 outs.length)∧a[36]? =some (.int .i64 j)) ?_ ?_
   ·rcases (hO.ext hxU).lz with ⟨rfl,e⟩ | ⟨x,rfl⟩ | ⟨kc,rfl,hkc⟩
    ·rw[e]at hjt;simp at hjt
    ·simp(maxSteps:=1000000)(disch:=omega)only[push_cast,hal,h0,h2,h9,h10,h28,h29,h30,h34,h35,h36,hw,↓WX,simprocAttr]
    ·simp(maxSteps:=1000000)(disch:=omega)only[push_cast,hal,h0,h2,h9,h10,h28,h29,h30,h34,h35,h36,hkc,hjt,hw,↓WX,simprocAttr]
   clear hal h0 h2 h9 h10 h28 h29 h30 h34 h35 h36 a
   rintro a U ⟨rfl,hal,h0,h2,h9,h10,h12,h28,h29,h30,h34,h35,h36⟩
   obtain⟨da,TA,ca,hga,hxa⟩:=All_c (n:=n) (by omega) (hStT.keep (lab':=lab) (KeepO.ext hxU)) ok hv2 hv3 hv1
   have hlA:=len_ls Tryz.underlying92 hga.lz
   simp only[push_cast]at hlA
   generalize allF s v.2=L at*
   simp(maxSteps:=1000000)(disch:=omega)only[push_cast,hal,h0,h9,ca,hlA,↓WX,simprocAttr]
   refine wl_loop (fun r a U'=>(ExtS T U'∧GL 2 encC U' da L∧∃d nx,a[10]? =some d∧OL T.length U' d nx∧nx.map (·.2)=stepC q ((outs.map (·.2)).take j) L++pickN q w.2 (L.take r))∧a.length=66∧a[0]? =some (.loc k 0 0)∧a[2]? =some (.int .i64 q)∧a[9]? =some (v.1)∧a[12]? =some (w.1)∧a[28]? =some (dc)∧a[29]? =some (.int .i64 cv.length)∧a[30]? =some (.int .i64 i)∧a[34]? =some (d7)∧a[35]? =some (.int .i64 outs.length)∧a[36]? =some (.int .i64 j)∧a[42]? =some (da)∧a[43]? =some (.int .i64 L.length)∧a[44]? =some (.int .i64 r)) L.length ?_ (by omega) ?_
   ·simp(maxSteps:=1000000)(disch:=omega)only[push_cast,hal,h0,h2,h9,h10,h12,h28,h29,h30,h34,h35,h36,Int.natCast_zero,simprocAttr]
    exact⟨fun k o hk=>hxa k o (hxU k o hk),hga,_,_,rfl,hN.ext hxa,by rw[hnx];simp[pickN]⟩
   clear hal h0 h2 h9 h10 h12 h28 h29 h30 h34 h35 h36 a
   clear hlA hga hxa ca hN hnx nx d10 hxU
   rintro r a U' hr ⟨⟨hxU,hga,d10,nx,h10,hN,hnx⟩,hal,h0,h2,h9,h12,h28,h29,h30,h34,h35,h36,h42,h43,h44⟩
   rcases Nat.lt_or_eq_of_le hr with hrt |rfl
   case inr=>
    simp(maxSteps:=1000000)(disch:=omega)only[push_cast,hal,h0,h2,h9,h10,h28,h29,h30,h34,h35,h36,h43,h44,hjt,Int.lt_irrefl,wrap_ok,Int.natCast_add,Int.natCast_one,↓WX,simprocAttr]
    exact⟨hxU,_,_,rfl,hN,by rw[hnx,List.take_length,stepC_succ hws]⟩
   have hrtc:(r:Int)<L.length:=by omega
   obtain⟨c,hcr⟩:∃c,L[r]? =some c:=⟨L[r],by simp⟩
   have hnl:nx.length<1000000000:=by
    have h1:=congrArg List.length hnx
    have h2:=stepC_len (n:=q) hLl ((outs.map (·.2)).take j)
    have h3:=pickN_len q w.2 (L.take r)
    rw[List.length_take]at h3
    rw[List.length_take,List.length_map]at h2
    rw[List.length_append,List.length_map]at h1
    omega
   rw[wc_asc]
   refine wc_scut (fun a V=>V=U'∧a.length=66∧a[0]? =some (.loc k 0 0)∧a[2]? =some (.int .i64 q)∧a[9]? =some (v.1)∧a[10]? =some (d10)∧a[12]? =some (w.1)∧a[28]? =some (dc)∧a[29]? =some (.int .i64 cv.length)∧a[30]? =some (.int .i64 i)∧a[34]? =some (d7)∧a[35]? =some (.int .i64 outs.length)∧a[36]? =some (.int .i64 j)∧a[42]? =some (da)∧a[43]? =some (.int .i64 L.length)∧a[44]? =some (.int .i64 r)) ?_ ?_
   ·simp(maxSteps:=1000000)(disch:=omega)only[push_cast,hal,h0,h2,h9,h10,h12,h28,h29,h30,h34,h35,h36,h42,h43,h44,hrtc,↓WX,simprocAttr]
   clear hal h0 h2 h9 h10 h12 h28 h29 h30 h34 h35 h36 h42 h43 h44 a
   rintro a V2 ⟨rfl,hal,h0,h2,h9,h10,h12,h28,h29,h30,h34,h35,h36,h42,h43,h44⟩
   rw[wc_seq,wc_block]
   obtain⟨U1,hU1⟩:∃U1,U1=V2++[Ob.row 2 [[.str c.1,.int .i64 c.2]]]:=⟨_,rfl⟩
   have x1:ExtS V2 U1:=by rw[hU1];exact fun _ _ h=>get_old h
   have e14:U1[V2.length]? =some (.row 2 [[.str c.1,.int .i64 c.2]]):=by rw[hU1];exact get_end
   refine wc_scut (fun a X=>X=U1∧a.length=66∧a[0]? =some (.loc k 0 0)∧a[2]? =some (.int .i64 q)∧a[9]? =some (v.1)∧a[10]? =some (d10)∧a[12]? =some (w.1)∧a[14]? =some (.loc V2.length 0 0)∧a[28]? =some (dc)∧a[29]? =some (.int .i64 cv.length)∧a[30]? =some (.int .i64 i)∧a[34]? =some (d7)∧a[35]? =some (.int .i64 outs.length)∧a[36]? =some (.int .i64 j)∧a[42]? =some (da)∧a[43]? =some (.int .i64 L.length)∧a[44]? =some (.int .i64 r)) ?_ ?_
   ·rcases hga with ⟨rfl,e⟩ | ⟨ka,rfl,hka⟩
    ·rw[e]at hrt;simp at hrt
    ·simp(maxSteps:=1000000)(disch:=omega)only[push_cast,hal,h0,h2,h9,h10,h12,h28,h29,h30,h34,h35,h36,h42,h43,h44,hka,hrt,hcr,encC,set_end,get_end,↓WX,simprocAttr]
     exact hU1.symm
   clear hal h0 h2 h9 h10 h12 h28 h29 h30 h34 h35 h36 h42 h43 h44 a
   clear hU1
   rintro a X ⟨rfl,hal,h0,h2,h9,h10,h12,h14,h28,h29,h30,h34,h35,h36,h42,h43,h44⟩
   by_cases hq:q≤c.2
   case neg=>
    simp(maxSteps:=1000000)(disch:=omega)only[push_cast,hal,h0,h2,h9,h10,h12,h14,h28,h29,h30,h34,h35,h36,h42,h43,h44,e14,hq,hrt,decide_false,wrap_ok,Int.natCast_add,Int.natCast_one,↓WX,simprocAttr]
    exact⟨fun k o hk=>x1 k o (hxU k o hk),hga.ext x1,_,_,rfl,hN.ext x1,by rw[hnx,pickN_succ hcr,if_neg hq,List.append_nil]⟩
   obtain⟨e1,T1,e2,T2,cc,pa,hE2,x2⟩:=clone_add (n:=n) (by omega) (((hwE.ext hxU).ext x1)) hwl c.1
   obtain⟨q2,ln,rfl⟩:∃q2 ln,e2=.os q2 0 ln false:=by
    rcases hE2 with ⟨-,e⟩ | ⟨-,q2,e,-⟩
    ·simp at e
    ·exact⟨q2,_,e⟩
   obtain⟨d3,T3,p3,hN3,k3,kn3,l3⟩:=app_ol ((hN.ext x1).ext x2) (Nat.le_trans hxU.len (Nat.le_trans x1.len x2.len)) hE2 hnl
   refine wc_scut (fun a Y=>Y=X∧a.length=66∧a[0]? =some (.loc k 0 0)∧a[2]? =some (.int .i64 q)∧a[9]? =some (v.1)∧a[10]? =some (d10)∧a[12]? =some (w.1)∧a[14]? =some (.loc V2.length 0 0)∧a[28]? =some (dc)∧a[29]? =some (.int .i64 cv.length)∧a[30]? =some (.int .i64 i)∧a[34]? =some (d7)∧a[35]? =some (.int .i64 outs.length)∧a[36]? =some (.int .i64 j)∧a[42]? =some (da)∧a[43]? =some (.int .i64 L.length)∧a[44]? =some (.int .i64 r)∧a[51]? =some (.bool true)) ?_ ?_
   ·simp(maxSteps:=1000000)(disch:=omega)only[push_cast,hal,h0,h2,h9,h10,h12,h14,h28,h29,h30,h34,h35,h36,h42,h43,h44,e14,hq,decide_true,↓WX,simprocAttr]
   clear hal h0 h2 h9 h10 h12 h14 h28 h29 h30 h34 h35 h36 h42 h43 h44 a
   rintro a Y ⟨rfl,hal,h0,h2,h9,h10,h12,h14,h28,h29,h30,h34,h35,h36,h42,h43,h44,h51⟩
   refine wc_tmpTT h51 ?_
   rw[wc_plan (p:=steps [0,1,3,4,2,5,6,7,8,9] .done) rfl]
   rw[wp_pick rfl]
   simp only[opsOf,List.filterMap_cons,List.filterMap_nil,List.getElem?_toArray,List.getElem?_cons_zero,List.getElem?_cons_succ]
   simp(maxSteps:=1000000)(disch:=omega)only[push_cast,decide_not,gt_iff_lt,hal,h0,h2,h9,h10,h12,h14,h28,h29,h30,h34,h35,h36,h42,h43,h44,e14,cc,pa,p3,hrt,wp_done,wrap_ok,Int.natCast_add,Int.natCast_one,↓WX,simprocAttr]
   refine⟨fun k o hk=>k3 k o ?_ (x2 k o (x1 k o (hxU k o hk))),?_,_,_,rfl,hN3,by rw[List.map_append,hnx,pickN_succ hcr,if_pos hq,List.append_assoc];rfl⟩
   ·exact (List.getElem?_eq_some_iff.1 hk).1
   ·rcases (hga.ext x1).ext x2 with ⟨f1,f2⟩ | ⟨ka,f1,f2⟩
    ·exact .inl ⟨f1,f2⟩
    ·exact .inr ⟨ka,f1,kn3 _ _ _ (by decide) f2⟩
  clear hal h0 h2 h7 h9 h10 h28 h29 h30 a
  rintro a U ⟨⟨hxU,d10,nx,h10,hN,hnx⟩,hal,h0,h2,h28,h29,h30⟩
  simp(maxSteps:=1000000)(disch:=omega)only[push_cast,hal,h0,h2,h10,h28,h29,h30,hlt,wrap_ok,Int.natCast_add,Int.natCast_one,↓WX,simprocAttr]
  exact⟨fun k o hk=>hxU k o (hxT k o hk),_,_,rfl,.inr ⟨by omega,hN.gl,hN.el,fun k n e=>Nat.le_trans hVT (hN.own k n e)⟩,by rw[hnx,hout,cmbF_succ hvs]⟩
 clear hal h0 h1 h2 h7 a
 rintro a T ⟨⟨hxT,d7,outs,h7,hO,hout⟩,hal⟩
 simp(maxSteps:=1000000)(disch:=omega)only[push_cast,hal,h7,Tryz.f9,↓WX,simprocAttr]
 exact⟨hxT,_,hO,hout⟩
theorem Classes_c (hn:3000001≤n) (h:StkAt S lab 1 kL (.loc k 0 0) s k m ps) (ok:StkOk 9999 s) {dc:D} {cv:List (D×List Lid)} (hc:LZ 1 encCv S dc cv) (hcl:cv.length≤1000000) (hcv:∀v∈cv,FLs 4 Lid.enc v.1 v.2∧v.2.length≤20∧∀id∈v.2,id.Ok) (q:Int):
  ∃d T outs,(∀st,callD E (dcall E n) st S 9 [.loc k 0 0,dc,.int .i64 q]=some (d,T))∧ExtS S T∧OL S.length T d outs∧outs.map (·.2)=if 1≤q∧cv≠[]∧cv.length≤3 then cmbF s q (cv.map (·.2)) else []:=by
 obtain⟨n,rfl⟩:∃m,n=m+1:=⟨n-1,by omega⟩
 obtain⟨d,T,ho,hx,outs,h1,h2⟩:=Classes_d (n:=n) (by omega) h ok hc hcl hcv q
 exact⟨d,T,outs,fun st=>callD_extS rfl ho hx,hx,h1,h2⟩
end
end Go.Proofs.YtkemehicndccmaaGreatDoor.Dm
