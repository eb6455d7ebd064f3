/-
  The reference's distances: what is reached so far.
  Conditions of rules, as a tree; how many levels and parts they have.
-/
import Derived.Test.YtaklebjoenophaaGreatPoC
import Derived.Test.YtaklebjoenophaaGreatWq
import Derived.Test.YtaklebjoenophaaGreatSkT
import Derived.Test.YtaklebjoenophaaGreatDmK
set_option maxHeartbeats 64000000
set_option maxRecDepth 100000
set_option linter.unusedSimpArgs false
set_option linter.unusedVariables false
namespace Go.Proofs.YtaklebjoenophaaGreat.Dm
open Go Gw
def Kp (p:ByteArray×Int):List D:=[.str p.1,.int .i64 p.2]
theorem encSps_pure (l:List (ByteArray×Int)):Zc (l.map Kp)=true:=by
 induction l with
 |nil=>rfl
 |cons f fs ih=>rw[Uy,Zw,ih];rfl
def rchF (s:ByteArray):List (ByteArray×Int)->Int
 | []=> -1
 |p::ps=>if p.1=s then p.2 else rchF s ps
theorem rchF_drop {s:ByteArray} {l:List (ByteArray×Int)} {i:Nat} {x:ByteArray×Int} (hx:l[i]?=some x):rchF s (l.drop i)=if x.1=s then x.2 else rchF s (l.drop (i+1)):=by
 obtain⟨ha,rfl⟩:=Kr.1 hx
 rw[List.drop_eq_getElem_cons ha]
 rfl
section
variable {n : Nat}
theorem reached_sl (l:List (ByteArray×Int)) (lx:Bool) (s:ByteArray) (hl:l.length<=100000) (hn:100010<=n):∀st S,Yi E (Yb E n) st S 222 [.sl 2 (l.map Kp) lx,.str s]=some (.int .i64 (rchF s l),S):=by
 obtain⟨m,rfl⟩:∃m,n=m+1:=⟨n-1,by omega⟩
 have:WO (Yb E (m+1) 222 [.sl 2 (l.map Kp) lx,.str s] []) λr T=>r=.int .i64 (rchF s l):=by
  refine Ye Tryz.func222 rfl (by decide) rfl 24 rfl (λa hal ha=>?_)
  obtain⟨h0,h1⟩:=aQ2 ha
  clear ha
  simp only[push_cast,↓WX,simprocAttr]
  refine Yk (λi a T=>(T=[]/\rchF s l=rchF s (l.drop i))/\a.length=24/\a[0]?=some (.sl 2 (l.map Kp) lx)/\a[1]?=some (.str s)/\a[5]?=some (.int .i64 i)) l.length ?_ (by omega) ?_
  ·simp only[push_cast,hal,h0,h1,simprocAttr,WY]
  rintro i a T hi ⟨⟨rfl,e⟩,hal,h0,h1,h5⟩
  rcases Kw hi with hlt |rfl
  case inr=>
   simp only[push_cast,hal,h0,h5,Tryz.f222,↓WX,simprocAttr,WY]
   rw[e,Vj]
   rfl
  have hltc:(i:Int)<l.length:=by omega
  obtain⟨x,hx⟩:∃x,l[i]?=some x:=⟨l[i],by simp⟩
  rw[rchF_drop hx]at e
  by_cases c:x.1=s
  ·have d1:decide (x.1=s)=true:=Ue c
   rw[if_pos c]at e
   simp only[push_cast,hal,h0,h1,h5,hltc,hx,d1,Yo,Kp,Tryz.f222,↓WX,simprocAttr]
   rw[e]
  ·have d1:decide (x.1=s)=false:=Ud c
   rw[if_neg c]at e
   simp(disch:=omega)only[push_cast,hal,h0,h1,h5,hltc,hlt,hx,d1,Yo,Kp,Yf,↓WX,simprocAttr,WY]
   exact e
 obtain⟨_,T,ho,rfl⟩:=this
 exact λst S=>callD_obsP rfl (by simp only[Yc,Yg,D.pure,encSps_pure,Ua]) ho rfl
theorem reached_os (l:List (ByteArray×Int)) (k:Nat) (S:List Ob) (hk:S[k]?=some (.row 2 (l.map Kp))) (s:ByteArray) (hl:l.length<=100000) (hn:100010<=n):∀st,Yi E (Yb E n) st S 222 [.os k 0 l.length false,.str s]=some (.int .i64 (rchF s l),S):=by
 obtain⟨m,rfl⟩:∃m,n=m+1:=⟨n-1,by omega⟩
 have:WO (Yb E (m+1) 222 [.os k 0 l.length false,.str s] S) λr T=>r=.int .i64 (rchF s l)/\T=S:=by
  refine Ye Tryz.func222 rfl (by decide) rfl 24 rfl (λa hal ha=>?_)
  obtain⟨h0,h1⟩:=aQ2 ha
  clear ha
  simp only[push_cast,↓WX,simprocAttr]
  refine Yk (λi a T=>(T=S/\rchF s l=rchF s (l.drop i))/\a.length=24/\a[0]?=some (.os k 0 l.length false)/\a[1]?=some (.str s)/\a[5]?=some (.int .i64 i)) l.length ?_ (by omega) ?_
  ·simp only[push_cast,hal,h0,h1,simprocAttr,WY]
  rintro i a T hi ⟨⟨rfl,e⟩,hal,h0,h1,h5⟩
  rcases Kw hi with hlt |rfl
  case inr=>
   simp only[push_cast,hal,h0,h5,Tryz.f222,↓WX,simprocAttr,WY]
   rw[e,Vj]
   rfl
  have hltc:(i:Int)<l.length:=by omega
  obtain⟨x,hx⟩:∃x,l[i]?=some x:=⟨l[i],by simp⟩
  rw[rchF_drop hx]at e
  by_cases c:x.1=s
  ·have d1:decide (x.1=s)=true:=Ue c
   rw[if_pos c]at e
   simp only[push_cast,hal,h0,h1,h5,hltc,hx,hk,d1,Yo,Kp,Tryz.f222,↓WX,simprocAttr]
   rw[e]
  ·have d1:decide (x.1=s)=false:=Ud c
   rw[if_neg c]at e
   simp(disch:=omega)only[push_cast,hal,h0,h1,h5,hltc,hlt,hx,hk,d1,Yo,Kp,Yf,↓WX,simprocAttr,WY]
   exact e
 obtain⟨_,T,ho,rfl,rfl⟩:=this
 exact λst=>callD_obs rfl rfl ho rfl
def reF (s:ByteArray) (v:Int):List (ByteArray×Int)->List (ByteArray×Int)×Bool
 | []=>([(s,v)],true)
 |p::ps=>if p.1=s then if p.2<=v then (p::ps,false) else ((p.1,v)::ps,true) else (p::(reF s v ps).1,(reF s v ps).2)
theorem reF_at {s:ByteArray} {v:Int} {l:List (ByteArray×Int)} {i:Nat} {x:ByteArray×Int} (hx:l[i]?=some x):reF s v (l.drop i)=if x.1=s then if x.2<=v then (l.drop i,false) else ((x.1,v)::l.drop (i+1),true) else (x::(reF s v (l.drop (i+1))).1,(reF s v (l.drop (i+1))).2):=by
 obtain⟨ha,rfl⟩:=Kr.1 hx
 rw[List.drop_eq_getElem_cons ha]
 rfl
theorem take_set {l:List (ByteArray×Int)} {i:Nat} {x y:ByteArray×Int} (hx:l[i]?=some x):l.take i++y::l.drop (i+1)=l.set i y:=by
 obtain⟨ha,rfl⟩:=Kr.1 hx
 rw[List.set_eq_take_append_cons_drop,if_pos ha]
def ReQ (k:Nat) (S:List Ob) (q:List (ByteArray×Int)×Bool) (r:D) (T:List Ob):Prop:=
 (∃k',r=.tup [.os k' 0 q.1.length false,.bool q.2]/\T[k']?=some (.row 2 (q.1.map Kp))/\(k'=k∨k'=S.length))/\(∀j o,j≠k->S[j]?=some o->T[j]?=some o)/\S.length<=T.length
theorem reach_os (l:List (ByteArray×Int)) (k:Nat) (S:List Ob) (hk:S[k]?=some (.row 2 (l.map Kp))) (s:ByteArray) (v:Int) (hl:l.length<=90000) (hn:100010<=n):
  WO (Yb E (n+1) 223 [.os k 0 l.length false,.str s,.int .i64 v] S) λr T=>ReQ k S (reF s v l) r T:=by
 obtain⟨q,hq⟩:∃q,q=reF s v l:=⟨_,rfl⟩
 rw[<-hq]
 refine Ye Tryz.func223 rfl (by decide) rfl 42 rfl (λa hal ha=>?_)
 obtain⟨h0,h1,h2⟩:=aQ3 ha
 clear ha
 simp only[push_cast,↓WX,simprocAttr]
 refine Yk (λi a T=>(T=S/\q=(l.take i++(reF s v (l.drop i)).1,(reF s v (l.drop i)).2))/\a.length=42/\a[0]?=some (.os k 0 l.length false)/\a[1]?=some (.str s)/\a[2]?=some (.int .i64 v)/\a[8]?=some (.int .i64 i)) l.length ?_ (by omega) ?_
 ·simp only[push_cast,hal,h0,h1,h2,simprocAttr,WY]
  rw[hq]
 rintro i a T hi ⟨⟨rfl,e⟩,hal,h0,h1,h2,h8⟩
 clear hq
 rcases Kw hi with hlt |rfl
 case inr=>
  obtain⟨S',a1,a2,a3,a4,-⟩:=app_gl (t:=255) (e:=254) (z:=.agg [.str (ByteArray.mk #[]),.int .i64 0]) (n:=1) (enc:=Kp) (S:=T) (d:=.os k 0 l.length false) (l:=l) (by kernel_rfl) (by kernel_rfl) (by kernel_rfl) rfl (Nat.le_of_ble_eq_true (by kernel_rfl)) (.inr ⟨k,rfl,hk⟩) (by omega) (s,v)
  rw[Vj,Vi]at e
  have e':q=(l++[(s,v)],true):=e
  subst e'
  simp only[Kp]at a1
  simp only[push_cast,hal,h0,h1,h2,h8,a1,Tryz.f223,↓WX,simprocAttr,WY]
  refine⟨?_,λj o hj ho=>a4 j o (λn h=>hj (D.os.inj h).1.symm) ho,by omega⟩
  rcases a2 with ⟨h,-⟩ | ⟨k',h,h'⟩
  ·cases h
  ·obtain⟨rfl,-⟩:=D.os.inj h
   exact⟨_,by rw[Ku];rfl,h',.inr rfl⟩
 have hltc:(i:Int)<l.length:=by omega
 obtain⟨x,hx⟩:∃x,l[i]?=some x:=⟨l[i],by simp⟩
 rw[reF_at hx]at e
 by_cases c:x.1=s
 ·have d1:decide (x.1=s)=true:=Ue c
  rw[if_pos c]at e
  by_cases c2:x.2<=v
  ·have d2:decide (x.2<=v)=true:=Ue c2
   rw[if_pos c2]at e
   have e':q=(l,false):=by rw[e,List.take_append_drop]
   subst e'
   simp only[push_cast,hal,h0,h1,h2,h8,hltc,hx,hk,d1,d2,Yo,Kp,Tryz.f223,↓WX,simprocAttr]
   exact⟨⟨_,rfl,hk,.inl rfl⟩,λj o _ ho=>ho,Uk _⟩
  ·have d2:decide (x.2<=v)=false:=Ud c2
   rw[if_neg c2]at e
   have e':q=(l.set i (x.1,v),true):=by rw[e,take_set hx]
   subst e'
   simp only[push_cast,hal,h0,h1,h2,h8,hltc,hx,hk,d1,d2,Yo,Kp,Tryz.f223,↓WX,simprocAttr]
   have hkl:k<T.length:=(Kr.1 hk).1
   exact⟨⟨k,by rw[Ux],by rw[Uf hkl,List.map_set];rfl,.inl rfl⟩,λj o hj ho=>by rw[Kt (Ne.symm hj)];exact ho,by rw[Ux];exact Uk _⟩
 ·have d1:decide (x.1=s)=false:=Ud c
  rw[if_neg c]at e
  simp(disch:=omega)only[push_cast,hal,h0,h1,h2,h8,hltc,hlt,hx,hk,d1,Yo,Kp,Yf,↓WX,simprocAttr,WY]
  rw[e,List.take_add_one,hx,Vg]
  rfl
theorem reach_eq (c:ByteArray) (S:List Ob) (v:Int) (hv:0<=v) (hn:100010<=n):
  WO (Yb E (n+1) 223 [.sl 2 [Kp (c,0)] true,.str c,.int .i64 v] S) λr T=>r=.tup [.sl 2 [Kp (c,0)] true,.bool false]/\T=S:=by
 refine Ye Tryz.func223 rfl (by decide) rfl 42 rfl (λa hal ha=>?_)
 obtain⟨h0,h1,h2⟩:=aQ3 ha
 clear ha
 simp only[Kp]at h0
 simp only[push_cast,↓WX,simprocAttr]
 refine Yk (λi a T=>(T=S/\i=0)/\a.length=42/\a[0]?=some (.sl 2 [[.str c,.int .i64 0]] true)/\a[1]?=some (.str c)/\a[2]?=some (.int .i64 v)/\a[8]?=some (.int .i64 0)) 1 ?_ (by omega) ?_
 ·simp only[push_cast,hal,h0,h1,h2,simprocAttr]
 rintro i a T hi ⟨⟨rfl,rfl⟩,hal,h0,h1,h2,h8⟩
 have d1:decide (c=c)=true:=Ue rfl
 have d2:decide ((0:Int)<=v)=true:=Ue hv
 simp only[push_cast,hal,h0,h1,h2,h8,d2,Yo,Uu,Tryz.f223,↓WX,simprocAttr,WY]
 rfl
theorem reach_ne (c:ByteArray) (S:List Ob) (s:ByteArray) (hc:c≠s) (v:Int) (hn:100010<=n):
  WO (Yb E (n+1) 223 [.sl 2 [Kp (c,0)] true,.str s,.int .i64 v] S) λr T=>r=.tup [.os S.length 0 2 false,.bool true]/\T=S++[.row 2 [[.str c,.int .i64 0],[.str s,.int .i64 v]]]:=by
 have d1:decide (c=s)=false:=Ud hc
 have hz:Zb Tryz.prog S 255 255 (.sl 2 [[.str c,.int .i64 0]] true) (.sl 2 [[.str s,.int .i64 v]] true)=some (.os S.length 0 2 false,S++[.row 2 [[.str c,.int .i64 0],[.str s,.int .i64 v]]]):=by
  have e1:Ki Tryz.prog 255=some 254:=by kernel_rfl
  have e2:Yw Tryz.prog 254=some 2:=by kernel_rfl
  have e3:Ji Tryz.prog 254=some (.agg [.str (ByteArray.mk #[]),.int .i64 0]):=by kernel_rfl
  have e4:(2*Kl Tryz.prog 254<=140737488355328)=True:=eq_true (Nat.le_of_ble_eq_true (by kernel_rfl))
  have e5:(2<=maxLen)=True:=eq_true (by unfold maxLen;omega)
  have e6:(D.agg [.str (ByteArray.mk #[]),.int .i64 0]).cells.length=2:=rfl
  simp only[Zb,e1,e2,e3,e4,e5,e6,Jw,Uu,Vs,Nat.zero_add,Nat.reduceAdd,Nat.succ_ne_zero,↓reduceIte,Uv,Vr,WY]
 refine Ye Tryz.func223 rfl (by decide) rfl 42 rfl (λa hal ha=>?_)
 obtain⟨h0,h1,h2⟩:=aQ3 ha
 clear ha
 simp only[Kp]at h0
 simp only[push_cast,↓WX,simprocAttr]
 refine Yk (λi a T=>T=S/\a.length=42/\a[0]?=some (.sl 2 [[.str c,.int .i64 0]] true)/\a[1]?=some (.str s)/\a[2]?=some (.int .i64 v)/\a[8]?=some (.int .i64 i)) 1 ?_ (by omega) ?_
 ·simp only[push_cast,hal,h0,h1,h2,simprocAttr,WY]
 rintro i a T hi ⟨rfl,hal,h0,h1,h2,h8⟩
 rcases Kw hi with hlt |rfl
 case inr=>
  simp only[push_cast,hal,h0,h1,h2,h8,hz,Uu,Tryz.f223,↓WX,simprocAttr,WY]
 obtain rfl:i=0:=by omega
 simp only[push_cast,hal,h0,h1,h2,h8,d1,Yo,Uu,Yf,↓WX,simprocAttr,WY]
end
inductive Cnd where
 |mk (kind:Int) (l:List Cnd) (lx:Bool) (a b pf pt pd:Int) (text:List ByteArray) (tx:Bool)
namespace Cnd
abbrev encT (s:ByteArray):List D:=[.str s]
mutual
def enc:Cnd->List D
 | .mk k l lx a b pf pt pd t tx=>[.int .i64 k,.sl 8 (encs l) lx,.int .i64 a,.int .i64 b,.int .i64 pf,.int .i64 pt,.int .i64 pd,.sl 1 (t.map encT) tx]
def encs:List Cnd->List (List D)
 | []=>[]
 |c::cs=>c.enc::encs cs
end
mutual
def lev:Cnd->Nat
 | .mk _ l _ _ _ _ _ _ _ _=>levs l+1
def levs:List Cnd->Nat
 | []=>0
 |c::cs=>max c.lev (levs cs)
end
mutual
def siz:Cnd->Nat
 | .mk _ l _ _ _ _ _ _ _ _=>sizs l+1
def sizs:List Cnd->Nat
 | []=>0
 |c::cs=>c.siz+sizs cs
end
theorem encs_map:∀l:List Cnd,encs l=l.map enc
 | []=>rfl
 |c::cs=>by rw[encs,encs_map cs];rfl
theorem encT_pure (l:List ByteArray):Zc (l.map encT)=true:=by
 induction l with
 |nil=>rfl
 |cons f fs ih=>rw[Uy,Zw,ih];rfl
mutual
theorem pure:∀c:Cnd,Yp c.enc=true
 | .mk k l lx a b pf pt pd t tx=>by
  have h1:=pures l
  have h2:=encT_pure t
  simp[enc,Yc,Yg,D.pure,h1,h2]
theorem pures:∀l:List Cnd,Zc (encs l)=true
 | []=>rfl
 |c::cs=>by
  have h1:=pure c
  have h2:=pures cs
  rw[encs,Zw,h1,h2];rfl
end
mutual
theorem lev_le:∀c:Cnd,c.lev<=Yn c.enc
 | .mk k l lx a b pf pt pd t tx=>by
  have:=levs_le l
  simp only[enc,lev,Yn,Zy];omega
theorem levs_le:∀l:List Cnd,levs l<=Jj (encs l)
 | []=>Vt _
 |c::cs=>by
  have h1:=lev_le c
  have h2:=levs_le cs
  simp only[encs,levs,Jj];omega
end
mutual
theorem siz_le:∀c:Cnd,c.siz<=Yn c.enc
 | .mk k l lx a b pf pt pd t tx=>by
  have:=sizs_le l
  simp only[enc,siz,Yn,Zy];omega
theorem sizs_le:∀l:List Cnd,sizs l<=Jj (encs l)
 | []=>Vt _
 |c::cs=>by
  have h1:=siz_le c
  have h2:=sizs_le cs
  simp only[encs,sizs,Jj];omega
end
theorem levs_add (x:Cnd):∀l:List Cnd,levs (l++[x])=max (levs l) x.lev
 | []=>by simp[levs]
 |c::cs=>by rw[Uv,levs,levs,levs_add x cs,Nat.max_assoc]
theorem sizs_add (x:Cnd):∀l:List Cnd,sizs (l++[x])=sizs l+x.siz
 | []=>by simp[sizs]
 |c::cs=>by rw[Uv,sizs,sizs,sizs_add x cs,Nat.add_assoc]
theorem levs_take {l:List Cnd} {i:Nat} {x:Cnd} (h:l[i]?=some x):levs (l.take (i+1))=max (levs (l.take i)) x.lev:=by
 rw[List.take_add_one,h];exact levs_add x _
theorem sizs_take {l:List Cnd} {i:Nat} {x:Cnd} (h:l[i]?=some x):sizs (l.take (i+1))=sizs (l.take i)+x.siz:=by
 rw[List.take_add_one,h];exact sizs_add x _
theorem bulk_take:∀(l:List Cnd) (i:Nat),Jj (encs (l.take i))<=Jj (encs l)
 | [],i=>by simp
 |c::cs,0=>Vt _
 |c::cs,i+1=>by
  have:=bulk_take cs i
  simp only[List.take_succ_cons,encs,Jj];omega
theorem bulk_get:∀ {l:List Cnd} {i:Nat} {x:Cnd},l[i]?=some x->Yn x.enc<=Jj (encs l)
 | [],i,x,h=>by simp at h
 |c::cs,0,x,h=>by
  have:c=x:=by simpa using h
  subst this
  simp only[encs,Jj];omega
 |c::cs,i+1,x,h=>by
  have:=bulk_get (l:=cs) (i:=i) (by simpa using h)
  simp only[encs,Jj];omega
theorem len_le:∀l:List Cnd,l.length<=Jj (encs l)
 | []=>Vt _
 |c::cs=>by
  have:=len_le cs
  have:1<=Yn c.enc:=Vk (by cases c;simp[lev]) (lev_le c)
  simp only[encs,Jj,Uu];omega
theorem encs_len (l:List Cnd):(encs l).length=l.length:=by rw[encs_map,Uq]
theorem encs_get {l:List Cnd} {i:Nat} {x:Cnd} (h:l[i]?=some x):(encs l)[i]?=some x.enc:=by rw[encs_map,Vd,h];rfl
end Cnd
theorem levels_c:∀(m:Nat) (n:Nat) (c:Cnd),Yn c.enc<=m->m<=1048576->2000000+m<=n->∀st S,Yi E (Yb E n) st S 153 [.agg c.enc]=some (.int .i64 c.lev,S)
 |0,n,.mk k l lx u v pf pt pd t tx,h,_,_=>by simp only[Cnd.enc,Yn,Zy]at h;omega
 |m+1,n,.mk k l lx u v pf pt pd t tx,h,hm,hn=>by
  obtain⟨n,rfl⟩:∃n',n=n'+1:=⟨n-1,by omega⟩
  have hc:(Cnd.mk k l lx u v pf pt pd t tx).enc=[.int .i64 k,.sl 8 (Cnd.encs l) lx,.int .i64 u,.int .i64 v,.int .i64 pf,.int .i64 pt,.int .i64 pd,.sl 1 (t.map Cnd.encT) tx]:=by rw[Cnd.enc]
  have hp:=Cnd.pure (.mk k l lx u v pf pt pd t tx)
  rw[hc]at h hp ⊢
  simp only[Yn,Zy]at h
  have hl:=Cnd.len_le l
  have hlv:=Cnd.levs_le l
  have hel:=Cnd.encs_len l
  have:WO (Yb E (n+1) 153 [.agg [.int .i64 k,.sl 8 (Cnd.encs l) lx,.int .i64 u,.int .i64 v,.int .i64 pf,.int .i64 pt,.int .i64 pd,.sl 1 (t.map Cnd.encT) tx]] []) λd T=>d=.int .i64 ((Cnd.levs l+1:Nat):Int):=by
   refine Ye Tryz.func153 rfl (by decide) rfl 22 rfl (λa hal ha=>?_)
   have h0:a[0]?=some (.agg [.int .i64 k,.sl 8 (Cnd.encs l) lx,.int .i64 u,.int .i64 v,.int .i64 pf,.int .i64 pt,.int .i64 pd,.sl 1 (t.map Cnd.encT) tx]):=ha 0 (by simp)
   clear ha
   simp(maxSteps:=1000000)(disch:=omega)only[push_cast,h0,↓WX,simprocAttr]
   refine Yk (λi a T=>T=[Ob.row 8 [[.int .i64 k,.sl 8 (Cnd.encs l) lx,.int .i64 u,.int .i64 v,.int .i64 pf,.int .i64 pt,.int .i64 pd,.sl 1 (t.map Cnd.encT) tx]]]/\a.length=22/\a[1]?=some (.loc 0 0 0)/\a[3]?=some (.int .i64 (Cnd.levs (l.take i)))/\a[4]?=some (.int .i64 i)) l.length ?_ (by omega) ?_
   ·simp(maxSteps:=1000000)(disch:=omega)only[push_cast,hal,Int.natCast_zero,List.take_zero,Cnd.levs,simprocAttr]
   rintro i a T hi ⟨rfl,hal,h1,h3,h4⟩
   rcases Kw hi with hlt |rfl
   case inr=>
    rw[Vi]at h3
    simp(maxSteps:=1000000)(disch:=omega)only[push_cast,hal,h1,h3,h4,hel,Int.lt_irrefl,Yf,Tryz.f153,↓WX,simprocAttr]
   obtain⟨x,hx⟩:∃x,l[i]?=some x:=⟨l[i],by simp⟩
   have hltc:(i:Int)<l.length:=by omega
   have hb:=Cnd.bulk_get hx
   have cx:=levels_c m n x (by omega) (by omega) (by omega)
   have hg:=Cnd.encs_get hx
   have ht:=Cnd.levs_take hx
   obtain⟨lv,hlv'⟩:∃v,v=x.lev:=⟨_,rfl⟩
   rw[<-hlv']at cx ht
   have hlb:=Cnd.lev_le x
   rw[<-hlv']at hlb
   cases x with |mk k' l' lx' u' v' pf' pt' pd' t' tx'=>?_
   simp only[Cnd.enc]at cx hg
   have hmax:((max (Cnd.levs (l.take i)) lv:Nat):Int)=max ((Cnd.levs (l.take i):Nat):Int) (lv:Int):=by omega
   simp(maxSteps:=1000000)(disch:=omega)only[push_cast,hal,h1,h3,h4,hel,hltc,hlt,hg,cx,ht,hmax,Yf,Int.natCast_add,Int.natCast_one,↓WX,simprocAttr]
   split <;> omega
  obtain⟨d,T,ho,rfl⟩:=this
  intro st S
  rw[show (Cnd.mk k l lx u v pf pt pd t tx).lev=Cnd.levs l+1 by rw[Cnd.lev]]
  exact Yd rfl (by rw[Yc,D.pure,hp];rfl) ho rfl
theorem Size_c:∀(m:Nat) (n:Nat) (c:Cnd),Yn c.enc<=m->m<=1048576->2000000+m<=n->∀st S,Yi E (Yb E n) st S 154 [.agg c.enc]=some (.int .i64 c.siz,S)
 |0,n,.mk k l lx u v pf pt pd t tx,h,_,_=>by simp only[Cnd.enc,Yn,Zy]at h;omega
 |m+1,n,.mk k l lx u v pf pt pd t tx,h,hm,hn=>by
  obtain⟨n,rfl⟩:∃n',n=n'+1:=⟨n-1,by omega⟩
  have hc:(Cnd.mk k l lx u v pf pt pd t tx).enc=[.int .i64 k,.sl 8 (Cnd.encs l) lx,.int .i64 u,.int .i64 v,.int .i64 pf,.int .i64 pt,.int .i64 pd,.sl 1 (t.map Cnd.encT) tx]:=by rw[Cnd.enc]
  have hp:=Cnd.pure (.mk k l lx u v pf pt pd t tx)
  rw[hc]at h hp ⊢
  simp only[Yn,Zy]at h
  have hl:=Cnd.len_le l
  have hlv:=Cnd.sizs_le l
  have hel:=Cnd.encs_len l
  have:WO (Yb E (n+1) 154 [.agg [.int .i64 k,.sl 8 (Cnd.encs l) lx,.int .i64 u,.int .i64 v,.int .i64 pf,.int .i64 pt,.int .i64 pd,.sl 1 (t.map Cnd.encT) tx]] []) λd T=>d=.int .i64 ((Cnd.sizs l+1:Nat):Int):=by
   refine Ye Tryz.func154 rfl (by decide) rfl 21 rfl (λa hal ha=>?_)
   have h0:=aQ1 ha
   clear ha
   simp only[push_cast,h0,↓WX,simprocAttr]
   refine Yk (λi a T=>T=[Ob.row 8 [[.int .i64 k,.sl 8 (Cnd.encs l) lx,.int .i64 u,.int .i64 v,.int .i64 pf,.int .i64 pt,.int .i64 pd,.sl 1 (t.map Cnd.encT) tx]]]/\a.length=21/\a[1]?=some (.loc 0 0 0)/\a[3]?=some (.int .i64 ((Cnd.sizs (l.take i)+1:Nat):Int))/\a[4]?=some (.int .i64 i)) l.length ?_ (by omega) ?_
   ·simp only[push_cast,hal,List.take_zero,Cnd.sizs,simprocAttr,WY]
   rintro i a T hi ⟨rfl,hal,h1,h3,h4⟩
   rcases Kw hi with hlt |rfl
   case inr=>
    rw[Vi]at h3
    simp(disch:=omega)only[push_cast,hal,h1,h3,h4,hel,Tryz.f154,↓WX,simprocAttr,WY]
   obtain⟨x,hx⟩:∃x,l[i]?=some x:=⟨l[i],by simp⟩
   have hltc:(i:Int)<l.length:=by omega
   have hb:=Cnd.bulk_get hx
   have cx:=Size_c m n x (by omega) (by omega) (by omega)
   have hg:=Cnd.encs_get hx
   have ht:=Cnd.sizs_take hx
   obtain⟨lv,hlv'⟩:∃v,v=x.siz:=⟨_,rfl⟩
   rw[<-hlv']at cx ht
   have hlb:=Cnd.siz_le x
   rw[<-hlv']at hlb
   cases x with |mk k' l' lx' u' v' pf' pt' pd' t' tx'=>?_
   simp only[Cnd.enc]at cx hg
   have hbt:=Cnd.bulk_take l i
   have hst:=Cnd.sizs_le (l.take i)
   have hbt2:=Cnd.bulk_take l (i+1)
   have hst2:=Cnd.sizs_le (l.take (i+1))
   rw[ht]at hst2
   have hw:IntKind.i64.wrap (((Cnd.sizs (l.take i):Nat):Int)+1+(lv:Int))=((Cnd.sizs (l.take i):Nat):Int)+1+lv:=Yf (by omega) (by omega)
   simp(disch:=omega)only[push_cast,hal,h1,h3,h4,hel,hltc,hlt,hg,cx,ht,hw,Yf,↓WX,simprocAttr,WY]
   omega
  obtain⟨d,T,ho,rfl⟩:=this
  intro st S
  rw[show (Cnd.mk k l lx u v pf pt pd t tx).siz=Cnd.sizs l+1 by rw[Cnd.siz]]
  exact Yd rfl (by rw[Yc,D.pure,hp];rfl) ho rfl
end Go.Proofs.YtaklebjoenophaaGreat.Dm
