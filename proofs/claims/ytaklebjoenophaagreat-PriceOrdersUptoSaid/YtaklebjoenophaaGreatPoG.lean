/-
  The reference's distances: what is reached so far.
  The plain law of the reference's distances: each change brings the search nearer to its end.
  The reference's distances: the list of what is reached, wherever it lies, and one step of it.
  The plain law of the order of prices: of two different valid prices just one is better.
-/
import Derived.Test.YtaklebjoenophaaGreatPoF
import Derived.Test.YtaklebjoenophaaGreatWq
import Derived.Test.YtaklebjoenophaaGreatSkT
import Derived.Test.YtaklebjoenophaaGreatPoB
import Derived.Test.YtaklebjoenophaaGreatPoC
set_option linter.unusedSimpArgs false
set_option linter.unusedVariables false
namespace Go.Proofs.YtaklebjoenophaaGreat.Dm
open Go Gw
set_option linter.unusedSimpArgs false
set_option linter.unusedSimpArgs false
def encSp (p:ByteArray×Int):List D:=[.str p.1,.int .i64 p.2]
theorem encSps_pure (l:List (ByteArray×Int)):pureLL (l.map encSp)=true:=by
 induction l with
 |nil=>rfl
 |cons f fs ih=>rw[List.map_cons,pureLL_cons,ih];rfl
def rchF (s:ByteArray):List (ByteArray×Int)→Int
 | []=> -1
 |p::ps=>if p.1=s then p.2 else rchF s ps
theorem rchF_drop {s:ByteArray} {l:List (ByteArray×Int)} {i:Nat} {x:ByteArray×Int} (hx:l[i]? =some x):rchF s (l.drop i)=if x.1=s then x.2 else rchF s (l.drop (i+1)):=by
 obtain⟨ha,rfl⟩:=List.getElem?_eq_some_iff.1 hx
 rw[List.drop_eq_getElem_cons ha]
 rfl
section
variable {n : Nat}
set_option maxHeartbeats 8000000 in
set_option maxRecDepth 100000 in
theorem reached_sl (l:List (ByteArray×Int)) (lx:Bool) (s:ByteArray) (hl:l.length≤100000) (hn:100010≤n):∀st S,callD E (dcall E n) st S 222 [.sl 2 (l.map encSp) lx,.str s]=some (.int .i64 (rchF s l),S):=by
 obtain⟨m,rfl⟩:∃m,n=m+1:=⟨n-1,by omega⟩
 have:WO (dcall E (m+1) 222 [.sl 2 (l.map encSp) lx,.str s] []) fun r T=>r=.int .i64 (rchF s l):=by
  refine wo_dcall Tryz.func222 rfl (by decide) rfl 24 rfl (fun a hal ha=>?_)
  have h0:a[0]? =some (.sl 2 (l.map encSp) lx):=ha 0 (by simp)
  have h1:a[1]? =some (.str s):=ha 1 (by simp)
  clear ha
  simp(maxSteps:=1000000)(disch:=omega)only[push_cast,decide_not,decide_eq_true_eq,decide_eq_false_iff_not,bne_eq_false_iff_eq,beq_eq_false_iff_ne,gt_iff_lt,ne_eq,not_true_eq_false,not_false_eq_true,hal,h0,h1,↓WX,simprocAttr]
  refine wl_loop (fun i a T=>(T=[]∧rchF s l=rchF s (l.drop i))∧a.length=24∧a[0]? =some (.sl 2 (l.map encSp) lx)∧a[1]? =some (.str s)∧a[5]? =some (.int .i64 i)) l.length ?_ (by omega) ?_
  ·simp(maxSteps:=1000000)(disch:=omega)only[push_cast,decide_not,decide_eq_true_eq,decide_eq_false_iff_not,bne_eq_false_iff_eq,beq_eq_false_iff_ne,gt_iff_lt,ne_eq,not_true_eq_false,not_false_eq_true,hal,h0,h1,Int.natCast_zero,↓WX,simprocAttr]
  clear hal h0 h1 a
  rintro i a T hi ⟨⟨rfl,e⟩,hal,h0,h1,h5⟩
  rcases Nat.lt_or_eq_of_le hi with hlt |rfl
  case inr=>
   simp(maxSteps:=1000000)(disch:=omega)only[push_cast,decide_not,decide_eq_true_eq,decide_eq_false_iff_not,bne_eq_false_iff_eq,beq_eq_false_iff_ne,gt_iff_lt,ne_eq,not_true_eq_false,not_false_eq_true,hal,h0,h1,h5,Int.lt_irrefl,Tryz.f222,↓WX,simprocAttr]
   rw[e,List.drop_length]
   rfl
  have hltc:(i:Int)<l.length:=by omega
  obtain⟨x,hx⟩:∃x,l[i]? =some x:=⟨l[i],by simp⟩
  rw[rchF_drop hx]at e
  by_cases c:x.1=s
  ·have d1:decide (x.1=s)=true:=decide_eq_true c
   rw[if_pos c]at e
   simp(maxSteps:=1000000)(disch:=omega)only[push_cast,decide_not,decide_eq_true_eq,decide_eq_false_iff_not,bne_eq_false_iff_eq,beq_eq_false_iff_ne,gt_iff_lt,ne_eq,not_true_eq_false,not_false_eq_true,hal,h0,h1,h5,hltc,hlt,hx,d1,str_eq,encSp,Tryz.f222,↓WX,simprocAttr]
   rw[e]
  ·have d1:decide (x.1=s)=false:=decide_eq_false c
   rw[if_neg c]at e
   simp(maxSteps:=1000000)(disch:=omega)only[push_cast,decide_not,decide_eq_true_eq,decide_eq_false_iff_not,bne_eq_false_iff_eq,beq_eq_false_iff_ne,gt_iff_lt,ne_eq,not_true_eq_false,not_false_eq_true,hal,h0,h1,h5,hltc,hlt,hx,d1,str_eq,encSp,wrap_ok,Int.natCast_add,Int.natCast_one,↓WX,simprocAttr]
   exact e
 obtain⟨_,T,ho,rfl⟩:=this
 exact fun st S=>callD_obsP rfl (by simp only[pureL_cons,pureL_nil,D.pure,encSps_pure,Bool.and_true]) ho rfl
set_option maxHeartbeats 8000000 in
set_option maxRecDepth 100000 in
theorem reached_os (l:List (ByteArray×Int)) (k:Nat) (S:List Ob) (hk:S[k]? =some (.row 2 (l.map encSp))) (s:ByteArray) (hl:l.length≤100000) (hn:100010≤n):∀st,callD E (dcall E n) st S 222 [.os k 0 l.length false,.str s]=some (.int .i64 (rchF s l),S):=by
 obtain⟨m,rfl⟩:∃m,n=m+1:=⟨n-1,by omega⟩
 have:WO (dcall E (m+1) 222 [.os k 0 l.length false,.str s] S) fun r T=>r=.int .i64 (rchF s l)∧T=S:=by
  refine wo_dcall Tryz.func222 rfl (by decide) rfl 24 rfl (fun a hal ha=>?_)
  have h0:a[0]? =some (.os k 0 l.length false):=ha 0 (by simp)
  have h1:a[1]? =some (.str s):=ha 1 (by simp)
  clear ha
  simp(maxSteps:=1000000)(disch:=omega)only[push_cast,decide_not,decide_eq_true_eq,decide_eq_false_iff_not,bne_eq_false_iff_eq,beq_eq_false_iff_ne,gt_iff_lt,ne_eq,not_true_eq_false,not_false_eq_true,hal,h0,h1,↓WX,simprocAttr]
  refine wl_loop (fun i a T=>(T=S∧rchF s l=rchF s (l.drop i))∧a.length=24∧a[0]? =some (.os k 0 l.length false)∧a[1]? =some (.str s)∧a[5]? =some (.int .i64 i)) l.length ?_ (by omega) ?_
  ·simp(maxSteps:=1000000)(disch:=omega)only[push_cast,decide_not,decide_eq_true_eq,decide_eq_false_iff_not,bne_eq_false_iff_eq,beq_eq_false_iff_ne,gt_iff_lt,ne_eq,not_true_eq_false,not_false_eq_true,hal,h0,h1,Int.natCast_zero,↓WX,simprocAttr]
  clear hal h0 h1 a
  rintro i a T hi ⟨⟨rfl,e⟩,hal,h0,h1,h5⟩
  rcases Nat.lt_or_eq_of_le hi with hlt |rfl
  case inr=>
   simp(maxSteps:=1000000)(disch:=omega)only[push_cast,decide_not,decide_eq_true_eq,decide_eq_false_iff_not,bne_eq_false_iff_eq,beq_eq_false_iff_ne,gt_iff_lt,ne_eq,not_true_eq_false,not_false_eq_true,hal,h0,h1,h5,Int.lt_irrefl,Tryz.f222,↓WX,simprocAttr]
   rw[e,List.drop_length]
   rfl
  have hltc:(i:Int)<l.length:=by omega
  obtain⟨x,hx⟩:∃x,l[i]? =some x:=⟨l[i],by simp⟩
  rw[rchF_drop hx]at e
  by_cases c:x.1=s
  ·have d1:decide (x.1=s)=true:=decide_eq_true c
   rw[if_pos c]at e
   simp(maxSteps:=1000000)(disch:=omega)only[push_cast,decide_not,decide_eq_true_eq,decide_eq_false_iff_not,bne_eq_false_iff_eq,beq_eq_false_iff_ne,gt_iff_lt,ne_eq,not_true_eq_false,not_false_eq_true,hal,h0,h1,h5,hltc,hlt,hx,hk,d1,str_eq,encSp,Tryz.f222,↓WX,simprocAttr]
   rw[e]
  ·have d1:decide (x.1=s)=false:=decide_eq_false c
   rw[if_neg c]at e
   simp(maxSteps:=1000000)(disch:=omega)only[push_cast,decide_not,decide_eq_true_eq,decide_eq_false_iff_not,bne_eq_false_iff_eq,beq_eq_false_iff_ne,gt_iff_lt,ne_eq,not_true_eq_false,not_false_eq_true,hal,h0,h1,h5,hltc,hlt,hx,hk,d1,str_eq,encSp,wrap_ok,Int.natCast_add,Int.natCast_one,↓WX,simprocAttr]
   exact e
 obtain⟨_,T,ho,rfl,rfl⟩:=this
 exact fun st=>callD_obs rfl rfl ho rfl
def reF (s:ByteArray) (v:Int):List (ByteArray×Int)→List (ByteArray×Int)×Bool
 | []=>([(s,v)],true)
 |p::ps=>if p.1=s then if p.2≤v then (p::ps,false) else ((p.1,v)::ps,true) else (p::(reF s v ps).1,(reF s v ps).2)
theorem reF_at {s:ByteArray} {v:Int} {l:List (ByteArray×Int)} {i:Nat} {x:ByteArray×Int} (hx:l[i]? =some x):reF s v (l.drop i)=if x.1=s then if x.2≤v then (l.drop i,false) else ((x.1,v)::l.drop (i+1),true) else (x::(reF s v (l.drop (i+1))).1,(reF s v (l.drop (i+1))).2):=by
 obtain⟨ha,rfl⟩:=List.getElem?_eq_some_iff.1 hx
 rw[List.drop_eq_getElem_cons ha]
 rfl
theorem take_set {l:List (ByteArray×Int)} {i:Nat} {x y:ByteArray×Int} (hx:l[i]? =some x):l.take i++y::l.drop (i+1)=l.set i y:=by
 obtain⟨ha,rfl⟩:=List.getElem?_eq_some_iff.1 hx
 rw[List.set_eq_take_append_cons_drop,if_pos ha]
def ReQ (k:Nat) (S:List Ob) (q:List (ByteArray×Int)×Bool) (r:D) (T:List Ob):Prop:=
 (∃k',r=.tup [.os k' 0 q.1.length false,.bool q.2]∧T[k']? =some (.row 2 (q.1.map encSp))∧(k'=k∨k'=S.length))∧(∀j o,j≠k→S[j]? =some o→T[j]? =some o)∧S.length≤T.length
set_option maxHeartbeats 16000000 in
set_option maxRecDepth 100000 in
theorem reach_os (l:List (ByteArray×Int)) (k:Nat) (S:List Ob) (hk:S[k]? =some (.row 2 (l.map encSp))) (s:ByteArray) (v:Int) (hl:l.length≤90000) (hn:100010≤n):
  WO (dcall E (n+1) 223 [.os k 0 l.length false,.str s,.int .i64 v] S) fun r T=>ReQ k S (reF s v l) r T:=by
 obtain⟨q,hq⟩:∃q,q=reF s v l:=⟨_,rfl⟩
 rw[←hq]
 refine wo_dcall Tryz.func223 rfl (by decide) rfl 42 rfl (fun a hal ha=>?_)
 have h0:a[0]? =some (.os k 0 l.length false):=ha 0 (by simp)
 have h1:a[1]? =some (.str s):=ha 1 (by simp)
 have h2:a[2]? =some (.int .i64 v):=ha 2 (by simp)
 clear ha
 simp(maxSteps:=1000000)(disch:=omega)only[push_cast,decide_not,decide_eq_true_eq,decide_eq_false_iff_not,bne_eq_false_iff_eq,beq_eq_false_iff_ne,gt_iff_lt,ne_eq,not_true_eq_false,not_false_eq_true,hal,h0,h1,h2,↓WX,simprocAttr]
 refine wl_loop (fun i a T=>(T=S∧q=(l.take i++(reF s v (l.drop i)).1,(reF s v (l.drop i)).2))∧a.length=42∧a[0]? =some (.os k 0 l.length false)∧a[1]? =some (.str s)∧a[2]? =some (.int .i64 v)∧a[8]? =some (.int .i64 i)) l.length ?_ (by omega) ?_
 ·simp(maxSteps:=1000000)(disch:=omega)only[push_cast,decide_not,decide_eq_true_eq,decide_eq_false_iff_not,bne_eq_false_iff_eq,beq_eq_false_iff_ne,gt_iff_lt,ne_eq,not_true_eq_false,not_false_eq_true,hal,h0,h1,h2,Int.natCast_zero,↓WX,simprocAttr]
  rw[hq]
 clear hal h0 h1 h2 a
 rintro i a T hi ⟨⟨rfl,e⟩,hal,h0,h1,h2,h8⟩
 clear hq
 rcases Nat.lt_or_eq_of_le hi with hlt |rfl
 case inr=>
  obtain⟨S',a1,a2,a3,a4,-⟩:=app_gl (t:=255) (e:=254) (z:=.agg [.str (ByteArray.mk #[]),.int .i64 0]) (n:=1) (enc:=encSp) (S:=T) (d:=.os k 0 l.length false) (l:=l) (by kernel_rfl) (by kernel_rfl) (by kernel_rfl) rfl (Nat.le_of_ble_eq_true (by kernel_rfl)) (.inr ⟨k,rfl,hk⟩) (by omega) (s,v)
  rw[List.drop_length,List.take_length]at e
  have e':q=(l++[(s,v)],true):=e
  subst e'
  simp only[encSp]at a1
  simp(maxSteps:=1000000)(disch:=omega)only[push_cast,decide_not,decide_eq_true_eq,decide_eq_false_iff_not,bne_eq_false_iff_eq,beq_eq_false_iff_ne,gt_iff_lt,ne_eq,not_true_eq_false,not_false_eq_true,hal,h0,h1,h2,h8,Int.lt_irrefl,a1,Tryz.f223,↓WX,simprocAttr]
  refine⟨?_,fun j o hj ho=>a4 j o (fun n h=>hj (D.os.inj h).1.symm) ho,by omega⟩
  rcases a2 with ⟨h,-⟩ | ⟨k',h,h'⟩
  ·cases h
  ·obtain⟨rfl,-⟩:=D.os.inj h
   exact⟨_,by rw[List.length_append];rfl,h',.inr rfl⟩
 have hltc:(i:Int)<l.length:=by omega
 obtain⟨x,hx⟩:∃x,l[i]? =some x:=⟨l[i],by simp⟩
 rw[reF_at hx]at e
 by_cases c:x.1=s
 ·have d1:decide (x.1=s)=true:=decide_eq_true c
  rw[if_pos c]at e
  by_cases c2:x.2≤v
  ·have d2:decide (x.2≤v)=true:=decide_eq_true c2
   rw[if_pos c2]at e
   have e':q=(l,false):=by rw[e,List.take_append_drop]
   subst e'
   simp(maxSteps:=1000000)(disch:=omega)only[push_cast,decide_not,decide_eq_true_eq,decide_eq_false_iff_not,bne_eq_false_iff_eq,beq_eq_false_iff_ne,gt_iff_lt,ne_eq,not_true_eq_false,not_false_eq_true,hal,h0,h1,h2,h8,hltc,hlt,hx,hk,d1,d2,str_eq,encSp,Tryz.f223,↓WX,simprocAttr]
   exact⟨⟨_,rfl,hk,.inl rfl⟩,fun j o _ ho=>ho,Nat.le_refl _⟩
  ·have d2:decide (x.2≤v)=false:=decide_eq_false c2
   rw[if_neg c2]at e
   have e':q=(l.set i (x.1,v),true):=by rw[e,take_set hx]
   subst e'
   simp(maxSteps:=1000000)(disch:=omega)only[push_cast,decide_not,decide_eq_true_eq,decide_eq_false_iff_not,bne_eq_false_iff_eq,beq_eq_false_iff_ne,gt_iff_lt,ne_eq,not_true_eq_false,not_false_eq_true,hal,h0,h1,h2,h8,hltc,hlt,hx,hk,d1,d2,str_eq,encSp,Tryz.f223,↓WX,simprocAttr]
   have hkl:k<T.length:=(List.getElem?_eq_some_iff.1 hk).1
   exact⟨⟨k,by rw[List.length_set],by rw[List.getElem?_set_self hkl,List.map_set];rfl,.inl rfl⟩,fun j o hj ho=>by rw[List.getElem?_set_ne (Ne.symm hj)];exact ho,by rw[List.length_set];exact Nat.le_refl _⟩
 ·have d1:decide (x.1=s)=false:=decide_eq_false c
  rw[if_neg c]at e
  simp(maxSteps:=1000000)(disch:=omega)only[push_cast,decide_not,decide_eq_true_eq,decide_eq_false_iff_not,bne_eq_false_iff_eq,beq_eq_false_iff_ne,gt_iff_lt,ne_eq,not_true_eq_false,not_false_eq_true,hal,h0,h1,h2,h8,hltc,hlt,hx,hk,d1,str_eq,encSp,wrap_ok,Int.natCast_add,Int.natCast_one,↓WX,simprocAttr]
  rw[e,List.take_add_one,hx,List.append_assoc]
  rfl
set_option maxHeartbeats 16000000 in
set_option maxRecDepth 100000 in
theorem reach_eq (c:ByteArray) (S:List Ob) (v:Int) (hv:0≤v) (hn:100010≤n):
  WO (dcall E (n+1) 223 [.sl 2 [encSp (c,0)] true,.str c,.int .i64 v] S) fun r T=>r=.tup [.sl 2 [encSp (c,0)] true,.bool false]∧T=S:=by
 refine wo_dcall Tryz.func223 rfl (by decide) rfl 42 rfl (fun a hal ha=>?_)
 have h0:a[0]? =some (.sl 2 [encSp (c,0)] true):=ha 0 (by simp)
 have h1:a[1]? =some (.str c):=ha 1 (by simp)
 have h2:a[2]? =some (.int .i64 v):=ha 2 (by simp)
 clear ha
 simp only[encSp]at h0
 simp(maxSteps:=1000000)(disch:=omega)only[push_cast,decide_not,decide_eq_true_eq,decide_eq_false_iff_not,bne_eq_false_iff_eq,beq_eq_false_iff_ne,gt_iff_lt,ne_eq,not_true_eq_false,not_false_eq_true,hal,h0,h1,h2,↓WX,simprocAttr]
 refine wl_loop (fun i a T=>(T=S∧i=0)∧a.length=42∧a[0]? =some (.sl 2 [[.str c,.int .i64 0]] true)∧a[1]? =some (.str c)∧a[2]? =some (.int .i64 v)∧a[8]? =some (.int .i64 0)) 1 ?_ (by omega) ?_
 ·simp(maxSteps:=1000000)(disch:=omega)only[push_cast,decide_not,decide_eq_true_eq,decide_eq_false_iff_not,bne_eq_false_iff_eq,beq_eq_false_iff_ne,gt_iff_lt,ne_eq,not_true_eq_false,not_false_eq_true,hal,h0,h1,h2,Int.natCast_zero,↓WX,simprocAttr]
 clear hal h0 h1 h2 a
 rintro i a T hi ⟨⟨rfl,rfl⟩,hal,h0,h1,h2,h8⟩
 have d1:decide (c=c)=true:=decide_eq_true rfl
 have d2:decide ((0:Int)≤v)=true:=decide_eq_true hv
 simp(maxSteps:=1000000)(disch:=omega)only[push_cast,decide_not,decide_eq_true_eq,decide_eq_false_iff_not,bne_eq_false_iff_eq,beq_eq_false_iff_ne,gt_iff_lt,ne_eq,not_true_eq_false,not_false_eq_true,hal,h0,h1,h2,h8,d1,d2,str_eq,Int.natCast_zero,List.length_cons,Tryz.f223,↓WX,simprocAttr]
 rfl
set_option maxHeartbeats 16000000 in
set_option maxRecDepth 100000 in
theorem reach_ne (c:ByteArray) (S:List Ob) (s:ByteArray) (hc:c≠s) (v:Int) (hn:100010≤n):
  WO (dcall E (n+1) 223 [.sl 2 [encSp (c,0)] true,.str s,.int .i64 v] S) fun r T=>r=.tup [.os S.length 0 2 false,.bool true]∧T=S++[.row 2 [[.str c,.int .i64 0],[.str s,.int .i64 v]]]:=by
 have d1:decide (c=s)=false:=decide_eq_false hc
 have hz:dAppend Tryz.prog S 255 255 (.sl 2 [[.str c,.int .i64 0]] true) (.sl 2 [[.str s,.int .i64 v]] true)=some (.os S.length 0 2 false,S++[.row 2 [[.str c,.int .i64 0],[.str s,.int .i64 v]]]):=by
  have e1:elemT Tryz.prog 255=some 254:=by kernel_rfl
  have e2:sizeT Tryz.prog 254=some 2:=by kernel_rfl
  have e3:zeroT Tryz.prog 254=some (.agg [.str (ByteArray.mk #[]),.int .i64 0]):=by kernel_rfl
  have e4:(2*bytesT Tryz.prog 254≤140737488355328)=True:=eq_true (Nat.le_of_ble_eq_true (by kernel_rfl))
  have e5:(2≤maxLen)=True:=eq_true (by unfold maxLen;omega)
  have e6:(D.agg [.str (ByteArray.mk #[]),.int .i64 0]).cells.length=2:=rfl
  simp only[dAppend,e1,e2,e3,e4,e5,e6,srcOf,List.length_cons,List.length_nil,Nat.zero_add,Nat.reduceAdd,if_true,and_self,Nat.succ_ne_zero,if_false,↓reduceIte,List.cons_append,List.nil_append]
 refine wo_dcall Tryz.func223 rfl (by decide) rfl 42 rfl (fun a hal ha=>?_)
 have h0:a[0]? =some (.sl 2 [encSp (c,0)] true):=ha 0 (by simp)
 have h1:a[1]? =some (.str s):=ha 1 (by simp)
 have h2:a[2]? =some (.int .i64 v):=ha 2 (by simp)
 clear ha
 simp only[encSp]at h0
 simp(maxSteps:=1000000)(disch:=omega)only[push_cast,decide_not,decide_eq_true_eq,decide_eq_false_iff_not,bne_eq_false_iff_eq,beq_eq_false_iff_ne,gt_iff_lt,ne_eq,not_true_eq_false,not_false_eq_true,hal,h0,h1,h2,↓WX,simprocAttr]
 refine wl_loop (fun i a T=>T=S∧a.length=42∧a[0]? =some (.sl 2 [[.str c,.int .i64 0]] true)∧a[1]? =some (.str s)∧a[2]? =some (.int .i64 v)∧a[8]? =some (.int .i64 i)) 1 ?_ (by omega) ?_
 ·simp(maxSteps:=1000000)(disch:=omega)only[push_cast,decide_not,decide_eq_true_eq,decide_eq_false_iff_not,bne_eq_false_iff_eq,beq_eq_false_iff_ne,gt_iff_lt,ne_eq,not_true_eq_false,not_false_eq_true,hal,h0,h1,h2,Int.natCast_zero,↓WX,simprocAttr]
 clear hal h0 h1 h2 a
 rintro i a T hi ⟨rfl,hal,h0,h1,h2,h8⟩
 rcases Nat.lt_or_eq_of_le hi with hlt |rfl
 case inr=>
  simp(maxSteps:=1000000)(disch:=omega)only[push_cast,decide_not,decide_eq_true_eq,decide_eq_false_iff_not,bne_eq_false_iff_eq,beq_eq_false_iff_ne,gt_iff_lt,ne_eq,not_true_eq_false,not_false_eq_true,hal,h0,h1,h2,h8,Int.lt_irrefl,Int.natCast_one,hz,List.length_cons,Tryz.f223,↓WX,simprocAttr]
 obtain rfl:i=0:=by omega
 simp(maxSteps:=1000000)(disch:=omega)only[push_cast,decide_not,decide_eq_true_eq,decide_eq_false_iff_not,bne_eq_false_iff_eq,beq_eq_false_iff_ne,gt_iff_lt,ne_eq,not_true_eq_false,not_false_eq_true,hal,h0,h1,h2,h8,d1,str_eq,Int.natCast_zero,List.length_cons,wrap_ok,Int.natCast_add,Int.natCast_one,↓WX,simprocAttr]
end
end Go.Proofs.YtaklebjoenophaaGreat.Dm
namespace Go.Proofs.YtaklebjoenophaaGreat.Dm
open Go Gw
set_option linter.unusedSimpArgs false
theorem nodup_len {α:Type} [DecidableEq α]:∀ {l m:List α},l.Nodup→(∀x∈l,x∈m)→l.length≤m.length
 | [],_,_,_=>Nat.zero_le _
 |x::xs,m,h,g=>by
  have hx:=g x List.mem_cons_self
  rw[List.nodup_cons]at h
  have:=nodup_len (l:=xs) (m:=m.erase x) h.2 (fun y hy=>(List.mem_erase_of_ne (fun e=>h.1 (by rw[←e];exact hy))).2 (g y (List.mem_cons_of_mem _ hy)))
  rw[List.length_erase_of_mem hx]at this
  have:0<m.length:=List.length_pos_of_mem hx
  rw[List.length_cons]
  omega
def sumV:List (ByteArray×Int)→Nat
 | []=>0
 |p::ps=>p.2.toNat+sumV ps
theorem sumV_append (l m:List (ByteArray×Int)):sumV (l++m)=sumV l+sumV m:=by
 induction l with
 |nil=>rw[List.nil_append];exact (Nat.zero_add _).symm
 |cons p ps ih=>
  show p.2.toNat+sumV (ps++m)=(p.2.toNat+sumV ps)+sumV m
  rw[ih]
  omega
theorem sumV_set:∀ {l:List (ByteArray×Int)} {i:Nat} {x:ByteArray×Int} (y:ByteArray×Int),l[i]? =some x→sumV (l.set i y)+x.2.toNat=sumV l+y.2.toNat
 | [],_,_,_,h=>by cases h
 |p::ps,0,x,y,h=>by
  obtain rfl:p=x:=by simpa using h
  rw[List.set_cons_zero]
  unfold sumV
  omega
 |p::ps,i+1,x,y,h=>by
  have:=sumV_set (l:=ps) (i:=i) y (by simpa using h)
  rw[List.set_cons_succ]
  unfold sumV
  omega
theorem reF_cases (s:ByteArray) (v:Int):∀l:List (ByteArray×Int),(s ∉ l.map (·.1)∧reF s v l=(l++[(s,v)],true))∨∃(i:Nat) (x:ByteArray×Int),l[i]? =some x∧x.1=s∧((x.2≤v∧reF s v l=(l,false))∨(v<x.2∧reF s v l=(l.set i (s,v),true)))
 | []=>.inl ⟨fun h=>(by cases h),rfl⟩
 |p::ps=>by
  unfold reF
  by_cases c:p.1=s
  ·right
   refine⟨0,p,rfl,c,?_⟩
   rw[if_pos c]
   by_cases c2:p.2≤v
   ·exact .inl ⟨c2,by rw[if_pos c2]⟩
   ·exact .inr ⟨by omega,by rw[if_neg c2,List.set_cons_zero,c]⟩
  ·rw[if_neg c]
   rcases reF_cases s v ps with ⟨h1,h2⟩ | ⟨i,x,h1,h2,h3⟩
   ·left
    refine⟨fun h=>?_,by rw[h2];rfl⟩
    rw[List.map_cons,List.mem_cons]at h
    rcases h with h |h
    ·exact c h.symm
    ·exact h1 h
   ·right
    refine⟨i+1,x,by simpa using h1,h2,?_⟩
    rcases h3 with ⟨g1,g2⟩ | ⟨g1,g2⟩
    ·exact .inl ⟨g1,by rw[g2]⟩
    ·exact .inr ⟨g1,by rw[g2,List.set_cons_succ]⟩
structure Gd (ns:List ByteArray) (l:List (ByteArray×Int)):Prop where
 nd:(l.map (·.1)).Nodup
 sub:∀p∈l,p.1∈ns
 lo:∀p∈l,0≤p.2
 hi:∀p∈l,p.2+20000≤20000*(l.length:Int)
def muF (ns:List ByteArray) (l:List (ByteArray×Int)):Nat:=sumV l+(ns.length-l.length)*900000
theorem Gd.len {ns:List ByteArray} {l:List (ByteArray×Int)} (h:Gd ns l):l.length≤ns.length:=by
 have:=nodup_len h.nd (m:=ns) (fun x hx=>by obtain⟨p,hp,rfl⟩:=List.mem_map.1 hx;exact h.sub p hp)
 rwa [List.length_map]at this
theorem reF_good {ns:List ByteArray} {l:List (ByteArray×Int)} {s:ByteArray} {v:Int} (h:Gd ns l) (hn:ns.length≤41) (hs:s∈ns) (h0:0≤v) (h1:v≤20000*(l.length:Int)):
  Gd ns (reF s v l).1∧muF ns (reF s v l).1≤muF ns l∧((reF s v l).2=true→muF ns (reF s v l).1+1≤muF ns l):=by
 have hlen:=h.len
 rcases reF_cases s v l with ⟨g1,g2⟩ | ⟨i,x,g1,g2,⟨g3,g4⟩ | ⟨g3,g4⟩⟩
 ·rw[g2]
  have hnd:((l++[(s,v)]).map (·.1)).Nodup:=by
   rw[List.map_append,List.nodup_append]
   exact⟨h.nd,by simp,fun a ha b hb e=>by
    have:b=s:=by simpa using hb
    exact g1 (by rw[←this,←e];exact ha)⟩
  have hg:Gd ns (l++[(s,v)]):=⟨hnd,fun p hp=>by
    rcases List.mem_append.1 hp with hp |hp
    ·exact h.sub p hp
    ·obtain rfl:p=(s,v):=by simpa using hp
     exact hs,fun p hp=>by
    rcases List.mem_append.1 hp with hp |hp
    ·exact h.lo p hp
    ·obtain rfl:p=(s,v):=by simpa using hp
     exact h0,fun p hp=>by
    rw[List.length_append,List.length_singleton]
    rcases List.mem_append.1 hp with hp |hp
    ·have:=h.hi p hp
     omega
    ·obtain rfl:p=(s,v):=by simpa using hp
     dsimp only
     omega⟩
  have hl2:=hg.len
  rw[List.length_append,List.length_singleton]at hl2
  have hmu:muF ns (l++[(s,v)])+1≤muF ns l:=by
   unfold muF
   rw[sumV_append,List.length_append,List.length_singleton]
   have e0:sumV [(s,v)]=v.toNat:=by simp[sumV]
   have hv:v.toNat≤820000:=by omega
   obtain⟨t,ht⟩:∃t,ns.length=l.length+1+t:=⟨ns.length-(l.length+1),by omega⟩
   rw[e0,show ns.length-(l.length+1)=t by omega,show ns.length-l.length=t+1 by omega]
   omega
  exact⟨hg,Nat.le_of_succ_le hmu,fun _=>hmu⟩
 ·rw[g4]
  exact⟨h,Nat.le_refl _,fun e=>by cases e⟩
 ·rw[g4]
  have hx:=List.mem_of_getElem? g1
  have hm:∀p∈l.set i (s,v),p∈l∨p=(s,v):=fun p hp=>List.mem_or_eq_of_mem_set hp
  have hk:(l.set i (s,v)).map (·.1)=l.map (·.1):=by
   rw[List.map_set]
   apply List.ext_getElem?
   intro j
   by_cases e:i=j
   ·subst e
    have hi':i<(l.map (·.1)).length:=by
     rw[List.length_map]
     exact (List.getElem?_eq_some_iff.1 g1).1
    rw[List.getElem?_set_self hi',List.getElem?_map,g1,Option.map_some,g2]
   ·rw[List.getElem?_set_ne e]
  have hsum:=sumV_set (s,v) g1
  have hx0:=h.lo x hx
  refine⟨⟨by rw[hk];exact h.nd,fun p hp=>?_,fun p hp=>?_,fun p hp=>?_⟩,?_,fun _=>?_⟩
  ·rcases hm p hp with hp |rfl
   ·exact h.sub p hp
   ·exact hs
  ·rcases hm p hp with hp |rfl
   ·exact h.lo p hp
   ·exact h0
  ·rw[List.length_set]
   rcases hm p hp with hp |rfl
   ·exact h.hi p hp
   ·have:=h.hi x hx
    dsimp only
    omega
  ·show muF ns (l.set i (s,v))≤muF ns l
   unfold muF
   rw[List.length_set]
   dsimp only at hsum
   omega
  ·show muF ns (l.set i (s,v))+1≤muF ns l
   unfold muF
   rw[List.length_set]
   dsimp only at hsum
   omega
theorem rchF_hi {ns:List ByteArray} {l:List (ByteArray×Int)} {s:ByteArray} (h:Gd ns l) (h0:0≤rchF s l):rchF s l+20000≤20000*(l.length:Int):=by
 have:∀m:List (ByteArray×Int),(∀p∈m,p.2+20000≤20000*(l.length:Int))→0≤rchF s m→rchF s m+20000≤20000*(l.length:Int):=by
  intro m
  induction m with
  |nil=>intro _ h;unfold rchF at h;omega
  |cons p ps ih=>
   intro g k
   unfold rchF at k ⊢
   split at k
   ·rename_i c
    rw[if_pos c]
    exact g p List.mem_cons_self
   ·rename_i c
    rw[if_neg c]
    exact ih (fun q hq=>g q (List.mem_cons_of_mem _ hq)) k
 exact this l h.hi h0
end Go.Proofs.YtaklebjoenophaaGreat.Dm
namespace Go.Proofs.YtaklebjoenophaaGreat.Dm
open Go Gw
set_option linter.unusedSimpArgs false
def SpI (c:ByteArray) (B:Nat) (T:List Ob) (d:D) (l:List (ByteArray×Int)):Prop:=
 (d=.sl 2 [encSp (c,0)] true∧l=[(c,0)])∨∃k,B≤k∧d=.os k 0 l.length false∧T[k]? =some (.row 2 (l.map encSp))
def KeepJ (B:Nat) (T U:List Ob):Prop:=∀j o,(j<B∨∀es,o≠.row 2 es)→T[j]? =some o→U[j]? =some o
theorem KeepJ.refl {B:Nat} {T:List Ob}:KeepJ B T T:=fun _ _ _ h=>h
theorem KeepJ.trans {B:Nat} {T U V:List Ob} (h:KeepJ B T U) (g:KeepJ B U V):KeepJ B T V:=fun j o c k=>g j o c (h j o c k)
theorem SpI.push {c:ByteArray} {B:Nat} {T:List Ob} {d:D} {l:List (ByteArray×Int)} (h:SpI c B T d l) (o:Ob):SpI c B (T++[o]) d l:=by
 rcases h with h | ⟨k,h1,h2,h3⟩
 ·exact .inl h
 ·exact .inr ⟨k,h1,h2,get_old h3⟩
section
variable {n : Nat}
theorem reached_at {c:ByteArray} {B:Nat} {T:List Ob} {d:D} {l:List (ByteArray×Int)} (h:SpI c B T d l) (hl:l.length≤100000) (hn:100010≤n) (s:ByteArray):∀st,callD E (dcall E n) st T 222 [d,.str s]=some (.int .i64 (rchF s l),T):=by
 rcases h with ⟨rfl,rfl⟩ | ⟨k,-,rfl,hk⟩
 ·exact fun st=>reached_sl [(c,0)] true s (by simp) hn st T
 ·exact reached_os l k T hk s hl hn
theorem reach_at {c:ByteArray} {B:Nat} {T:List Ob} {d:D} {l:List (ByteArray×Int)} (h:SpI c B T d l) (hB:B≤T.length) (hl:l.length≤90000) (hn:100020≤n) (s:ByteArray) (v:Int) (hv:0≤v):
  ∃r U,(∀st,callD E (dcall E n) st T 223 [d,.str s,.int .i64 v]=some (.tup [r,.bool (reF s v l).2],U))∧SpI c B U r (reF s v l).1∧KeepJ B T U∧T.length≤U.length:=by
 have mk:∀(args:List D) (r:D) (U:List Ob) st,dcall E n 223 args T=some (r,U)→callD E (dcall E n) st T 223 args=some (r,U):=fun args r U st h=>by
  unfold callD
  rw[show E.mode 223=.gen from rfl]
  exact h
 obtain⟨m,rfl⟩:∃m,n=m+1:=⟨n-1,by omega⟩
 rcases h with ⟨rfl,rfl⟩ | ⟨k,hk0,rfl,hk⟩
 ·by_cases e:c=s
  ·subst e
   obtain⟨d,U,ho,rfl,rfl⟩:=reach_eq (n:=m) c T v hv (by omega)
   have hr:reF c v [(c,0)]=([(c,0)],false):=by
    unfold reF
    rw[if_pos rfl,if_pos hv]
   rw[hr]
   exact⟨_,_,fun st=>mk _ _ _ st ho,.inl ⟨rfl,rfl⟩,KeepJ.refl,Nat.le_refl _⟩
  ·obtain⟨d,U,ho,rfl,rfl⟩:=reach_ne (n:=m) c T s e v (by omega)
   have hr:reF s v [(c,0)]=([(c,0),(s,v)],true):=by
    unfold reF
    rw[if_neg e]
    rfl
   rw[hr]
   exact⟨_,_,fun st=>mk _ _ _ st ho,.inr ⟨T.length,hB,rfl,get_end⟩,fun j o _ hj=>get_old hj,by simp⟩
 ·obtain⟨d,U,ho,⟨k',rfl,h1,h4⟩,h2,hlen⟩:=reach_os (n:=m) l k T hk s v (by omega) (by omega)
  refine⟨_,U,fun st=>mk _ _ _ st ho,.inr ⟨k',?_,rfl,h1⟩,fun j o hc hj=>h2 j o (fun e=>?_) hj,hlen⟩
  ·rcases h4 with rfl |rfl
   ·exact hk0
   ·exact hB
  ·subst e
   rw[hk]at hj
   rcases hc with hc |hc
   ·omega
   ·exact hc _ (Option.some.inj hj).symm
end
end Go.Proofs.YtaklebjoenophaaGreat.Dm
namespace Go.Proofs.YtaklebjoenophaaGreat.Dm
open Go Gw
set_option linter.unusedSimpArgs false
theorem ltP_self:∀l:List Prt,ltP l l=false
 | []=>rfl
 |x::xs=>by
  unfold ltP
  rw[if_pos rfl,if_pos rfl,ltP_self xs]
theorem ltP_asym:∀ {a b:List Prt},ltP a b=true→ltP b a=false
 | [],_,h=>by cases h
 |_::_,[],h=>by cases h
 |x::xs,y::ys,h=>by
  unfold ltP at h ⊢
  by_cases c1:x.to=y.to
  ·rw[if_pos c1]at h
   rw[if_pos c1.symm]
   by_cases c2:x.fa=y.fa
   ·rw[if_pos c2]at h
    rw[if_pos c2.symm]
    exact ltP_asym h
   ·rw[if_neg c2]at h
    rw[if_neg (fun e=>c2 e.symm)]
    have:=of_decide_eq_true h
    exact decide_eq_false (by omega)
  ·rw[if_neg c1]at h
   rw[if_neg (fun e=>c1 e.symm)]
   have:=of_decide_eq_true h
   exact decide_eq_false (by omega)
theorem betterF_asym {u v:Quo} (h:betterF u v=true):betterF v u=false:=by
 unfold betterF at h ⊢
 by_cases c1:u.total=v.total
 ·rw[if_pos c1]at h
  rw[if_pos c1.symm]
  by_cases c2:u.parts.length=v.parts.length
  ·rw[if_pos c2]at h
   rw[if_pos c2.symm]
   exact ltP_asym h
  ·rw[if_neg c2]at h
   rw[if_neg (fun e=>c2 e.symm)]
   have:=of_decide_eq_true h
   exact decide_eq_false (by omega)
 ·rw[if_neg c1]at h
  rw[if_neg (fun e=>c1 e.symm)]
  have:=of_decide_eq_true h
  exact decide_eq_false (by omega)
theorem sameF_iff {u v:Quo}:sameF u v=true↔u.parts=v.parts∧u.pairs=v.pairs∧u.taxes=v.taxes∧u.fare=v.fare∧u.total=v.total:=by
 unfold sameF
 rw[Bool.and_eq_true,Bool.and_eq_true,Bool.and_eq_true,Bool.and_eq_true,allE_iff eqP_iff,allE_iff eqPr_iff,allE_iff eqCh_iff,decide_eq_true_eq,decide_eq_true_eq]
theorem sameF_self (u:Quo):sameF u u=true:=sameF_iff.2 ⟨rfl,rfl,rfl,rfl,rfl⟩
theorem parts_eq {amt:Int→Int→Int→Int} {n:Int}:∀ {a b:List Prt} {k:Int},a.length=b.length→cvF a k n=true→cvF b k n=true→(∀x∈a,x.am=amt x.fa x.fr x.to)→(∀x∈b,x.am=amt x.fa x.fr x.to)→ltP a b=false→ltP b a=false→a=b
 | [],[],_,_,_,_,_,_,_,_=>rfl
 | [],_::_,_,h,_,_,_,_,_,_=>by cases h
 |_::_,[],_,h,_,_,_,_,_,_=>by cases h
 |x::xs,y::ys,k,hl,ha,hb,pa,pb,h1,h2=>by
  unfold cvF at ha hb
  split at ha
  case isFalse=>cases ha
  rename_i ga
  split at hb
  case isFalse=>cases hb
  rename_i gb
  unfold ltP at h1 h2
  by_cases c1:x.to=y.to
  case neg=>
   rw[if_neg c1]at h1
   rw[if_neg (fun e=>c1 e.symm)]at h2
   have:=of_decide_eq_false h1
   have:=of_decide_eq_false h2
   omega
  rw[if_pos c1]at h1
  rw[if_pos c1.symm]at h2
  by_cases c2:x.fa=y.fa
  case neg=>
   rw[if_neg c2]at h1
   rw[if_neg (fun e=>c2 e.symm)]at h2
   have:=of_decide_eq_false h1
   have:=of_decide_eq_false h2
   omega
  rw[if_pos c2]at h1
  rw[if_pos c2.symm]at h2
  have hx:=pa x List.mem_cons_self
  have hy:=pb y List.mem_cons_self
  have hfr:x.fr=y.fr:=by omega
  have ham:x.am=y.am:=by rw[hx,hy,c1,c2,hfr]
  have hxy:x=y:=by
   obtain⟨x0,x1,x2,x3⟩:=x
   obtain⟨y0,y1,y2,y3⟩:=y
   simp only at c1 c2 hfr ham
   rw[c1,c2,hfr,ham]
  rw[←c1]at hb
  rw[hxy,parts_eq (a:=xs) (b:=ys) (k:=x.to) (by simpa using hl) ha hb (fun z hz=>pa z (List.mem_cons_of_mem _ hz)) (fun z hz=>pb z (List.mem_cons_of_mem _ hz)) h1 h2]
theorem orders_plain {u v:Quo} {n:Int} {amt:Int→Int→Int→Int} {want:List Prt→Quo} (cu:cvF u.parts 0 n=true) (cv:cvF v.parts 0 n=true) (au:∀x∈u.parts,x.am=amt x.fa x.fr x.to) (av:∀x∈v.parts,x.am=amt x.fa x.fr x.to) (wu:sameF (want u.parts) u=true) (wv:sameF (want v.parts) v=true):sameF u v= !(betterF u v || betterF v u):=by
 obtain⟨-,pu,tu,fu,su⟩:=sameF_iff.1 wu
 obtain⟨-,pv,tv,fv,sv⟩:=sameF_iff.1 wv
 by_cases e:u.parts=v.parts
 ·have h1:sameF u v=true:=sameF_iff.2 ⟨e,by rw[←pu,←pv,e],by rw[←tu,←tv,e],by rw[←fu,←fv,e],by rw[←su,←sv,e]⟩
  have ht:=(sameF_iff.1 h1).2.2.2.2
  have h2:betterF u v=false:=by
   unfold betterF
   rw[if_pos ht,if_pos (by rw[e]),e,ltP_self]
  have h3:betterF v u=false:=by
   unfold betterF
   rw[if_pos ht.symm,if_pos (by rw[e]),e,ltP_self]
  rw[h1,h2,h3]
  rfl
 ·have h1:sameF u v=false:=by
   rw[Bool.eq_false_iff]
   exact fun h=>e (sameF_iff.1 h).1
  rw[h1]
  have h2:(betterF u v || betterF v u)=true:=by
   unfold betterF
   by_cases c1:u.total=v.total
   ·rw[if_pos c1,if_pos c1.symm]
    by_cases c2:u.parts.length=v.parts.length
    ·rw[if_pos c2,if_pos c2.symm]
     cases g1:ltP u.parts v.parts
     ·cases g2:ltP v.parts u.parts
      ·exact (e (parts_eq c2 cu cv au av g1 g2)).elim
      ·rfl
     ·rfl
    ·rw[if_neg c2,if_neg (fun h=>c2 h.symm),Bool.or_eq_true,decide_eq_true_eq,decide_eq_true_eq]
     omega
   ·rw[if_neg c1,if_neg (fun h=>c1 h.symm),Bool.or_eq_true,decide_eq_true_eq,decide_eq_true_eq]
    omega
  rw[h2]
  rfl
end Go.Proofs.YtaklebjoenophaaGreat.Dm
