/-
  Lists of plain data and how much they hold; what the frames of rows without listed variables import.
  The reference's violations of configurations, of any size that the bound allows.
  The reference's violations of configurations of any size: a list, and empty only where the configurations are small.
  The reference's violations of cabins and of configurations of any size: none, then they are small.
  Conditions of rules, as a tree; how many levels and parts they have.
-/
import Derived.Test.YtaklebjoenophaaGreatZg
import Derived.Test.YtaklebjoenophaaGreatRows
import Derived.ProofKit
import Derived.OpenShut
import Derived.ShutString
import Derived.Stop.Joined
import Derived.JoinedCond
import Derived.Test.YtaklebjoenophaaGreatTod
set_option linter.unusedSimpArgs false
set_option linter.unusedVariables false
namespace Go.Proofs.YtaklebjoenophaaGreat
open Go Go.ChangeShapes Go.WideShapes Go.ChangeAt Go.RowKit Dm
set_option linter.unusedSimpArgs false
theorem own:ownKnob Tryz.prog.godebug=none:=by kernel_rfl
theorem list_relB {α:Type} {R:List D→α→Prop}:∀ {es:List (List D)},(∀(j:Nat) (c:List D),es[j]? =some c→∃r:α,R c r)→∃rs:List α,rs.length=es.length∧∀(j:Nat) (c:List D) (r:α),es[j]? =some c→rs[j]? =some r→R c r
 | [],_=>⟨[],rfl,fun j c r h=>by simp at h⟩
 |e::es,h=>by
  obtain⟨r,hr⟩:=h 0 e rfl
  obtain⟨rs,h1,h2⟩:=list_relB (es:=es) fun j c hc=>h (j+1) c (by simpa using hc)
  refine⟨r::rs,by simp[h1],fun j c r' hc hr'=>?_⟩
  cases j with
  |zero=>
   have e1:e=c:=by simpa using hc
   have e2:r=r':=by simpa using hr'
   rw[←e1,←e2];exact hr
  |succ j=>exact h2 j c r' (by simpa using hc) (by simpa using hr')
theorem bulk_map {α:Type} {enc:α→List D}:∀ {es:List (List D)} {rs:List α},rs.length=es.length→(∀(j:Nat) (c:List D) (r:α),es[j]? =some c→rs[j]? =some r→bulkL (enc r)≤bulkL c)→bulkLL (rs.map enc)≤bulkLL es
 | [],[],_,_=>Nat.le_refl _
 |e::es,r::rs,hl,h=>by
  have h0:=h 0 e r rfl rfl
  have:=bulk_map (es:=es) (rs:=rs) (by simpa using hl) (fun j c r h1 h2=>h (j+1) c r (by simpa using h1) (by simpa using h2))
  simp only[List.map_cons,bulkLL];omega
 | [],_::_,hl,_=>by simp at hl
 |_::_,[],hl,_=>by simp at hl
theorem slices_relB {α:Type} {enc:α→List D} {Q:α→Prop} {t e:TypeId} {n:Nat} (ht:Tryz.prog.underlying t=some (.slice e)) (hn:Tryz.prog.cellsOf e=n) (hof:∀c,TC Tryz.prog e c→∃r:α,CellR c (enc r)∧Q r∧bulkL (enc r)≤bulkL c) {d:D} (h:TC Tryz.prog t [d]):
  ∃(l:List α) (x:Bool),(∀r∈l,Q r)∧(∀W C u,VR W C d u→VR W C (.sl n (l.map enc) x) u)∧bulkLL (l.map enc)+1≤bulkD d:=by
 rcases h.toSlice ht with h | ⟨es,x,h,hle,hes⟩
 ·have:d=.nils:=by simpa using h
  subst this
  exact⟨[],true,(fun r h=>by cases h),fun W C u hu=>nils_sl hu,Nat.le_refl _⟩
 ·rw[hn]at h
  have:d=.sl n es x:=by simpa using h
  subst this
  obtain⟨l,hl,hr⟩:=list_relB (R:=fun c r=>CellR c (enc r)∧Q r∧bulkL (enc r)≤bulkL c) fun j c hc=>hof c (hes j c hc)
  refine⟨l,x,fun r hm=>?_,fun W C u hu=>VR.sl_rel hu (by rw[List.length_map];exact hl) fun j e e' he he'=>?_,?_⟩
  ·obtain⟨j,hj⟩:=List.mem_iff_getElem?.1 hm
   have hjl:j<es.length:=by rw[←hl];exact (List.getElem?_eq_some_iff.1 hj).1
   exact (hr j es[j] r (List.getElem?_eq_getElem hjl) hj).2.1
  ·rw[List.getElem?_map]at he'
   obtain⟨r,hr',rfl⟩:=Option.map_eq_some_iff.1 he'
   exact (hr j e r he hr').1
  ·have:=bulk_map (enc:=enc) hl (fun j c r h1 h2=>(hr j c r h1 h2).2.2)
   simp only[bulkD];omega
theorem bulk_mem {c:List D}:∀ {es:List (List D)},c∈es→bulkL c≤bulkLL es
 | [],h=>by cases h
 |e::es,h=>by
  simp only[bulkLL]
  rcases List.mem_cons.1 h with rfl |h
  ·omega
  ·have:=bulk_mem h;omega
theorem bulk_len {m:Nat}:∀ {es:List (List D)},(∀c∈es,m≤bulkL c)→m*es.length≤bulkLL es
 | [],_=>by simp[bulkLL]
 |e::es,h=>by
  have h0:=h e (by simp)
  have:=bulk_len (es:=es) (fun c hc=>h c (by simp[hc]))
  simp only[bulkLL,List.length_cons,Nat.mul_add];omega
theorem bcells_gint:Tryz.prog.cellsOf 3=1:=by kernel_rfl
theorem bcells_gstr:Tryz.prog.cellsOf 9=1:=by kernel_rfl
end Go.Proofs.YtaklebjoenophaaGreat
namespace Go.Proofs.YtaklebjoenophaaGreat.Dm
open Go Gw
set_option linter.unusedSimpArgs false
set_option linter.unusedSimpArgs false
namespace Wb

structure CfgB (c:Cfg):Prop where
 eq:c.equip.size≤1048576
 nm:∀y∈c.cabs,y.name.size≤1048576
 cl:∀y∈c.cabs,∀z∈y.cls,z.code.size≤1048576
 cabs:c.cabs.length≤262144
 cls:∀y∈c.cabs,y.cls.length≤1048576
theorem CfgB.z {c:Cfg} (h:CfgB c) {n:Nat} (hn:2000000≤n):CfgZ n c:=
 ⟨by have:=h.eq;omega,fun y hy=>by have:=h.nm y hy;omega,fun y hy z hz=>by have:=h.cl y hy z hz;omega⟩
def digs:ByteArray:=ByteArray.mk #[48,49,50,51,52,53,54,55,56,57]
theorem digW:∀(k:Nat) {n i:Nat},k≤10→i<10 ^ (k+1)→k+2≤n→∃s:ByteArray,s.size≤k+1∧∀st S,callD E (dcall E n) st S 101 [.int .u64 i]=some (.str s,S)
 |k,n,i,hk,hi,hn=>by
  obtain⟨m,rfl⟩:∃m,n=m+1:=⟨n-1,by omega⟩
  have hbig:10 ^ (k+1)≤10 ^ 11:=Nat.pow_le_pow_right (by omega) (by omega)
  have w1:∀j:Nat,j<10→IntKind.u64.wrap ((j:Int)+1)=(j:Int)+1:=fun j hj=>Int.emod_eq_of_lt (by omega) (by show (j:Int)+1<18446744073709551616;omega)
  have s1:∀j:Nat,j<10→(ByteArray.extract digs j (j+1)).size=1:=fun j hj=>by
   rw[ByteArray.size_extract]
   show min (j+1) 10-j=1
   omega
  by_cases h10:i<10
  ·have:WO (dcall E (m+1) 101 [.int .u64 i] []) fun d T=>d=.str (ByteArray.extract digs i (i+1)):=by
    refine wo_dcall Tryz.func101 rfl (by decide) rfl 19 rfl (fun a hal ha=>?_)
    have h0:a[0]? =some (.int .u64 i):=ha 0 (by simp)
    clear ha
    have hc:(i:Int)<10:=by omega
    have q1:(0:Int)≤(i:Int)+1:=by omega
    have q2:((i:Int)+1).toNat=i+1:=by omega
    have q3:i≤i+1:=by omega
    have q4:i+1≤10:=by omega
    have q5:(ByteArray.mk #[48,49,50,51,52,53,54,55,56,57]).size=10:=rfl
    unfold digs
    simp(maxSteps:=1000000)(disch:=omega)only[push_cast,decide_not,decide_eq_true_eq,decide_eq_false_iff_not,bne_eq_false_iff_eq,beq_eq_false_iff_ne,gt_iff_lt,ne_eq,not_true_eq_false,not_false_eq_true,hal,h0,hc,w1 i h10,q1,q2,q3,q4,q5,and_self,Tryz.f101,↓WX,simprocAttr]
   obtain⟨d,T,ho,rfl⟩:=this
   exact⟨_,by rw[s1 i h10];omega,fun st S=>callD_pure rfl rfl ho rfl⟩
  ·obtain⟨k',rfl⟩:∃k',k=k'+1:=⟨k-1,by
    rcases Nat.eq_zero_or_pos k with rfl |h
    ·simp at hi;omega
    ·omega⟩
   obtain⟨s,hs,cs⟩:=digW k' (n:=m) (i:=i / 10) (by omega) (by rw[Nat.pow_succ]at hi;omega) (by omega)
   have hs2:=s1 (i % 10) (by omega)
   refine⟨s++ByteArray.extract digs (i % 10) (i % 10+1),by rw[ba_len,hs2];omega,?_⟩
   have:WO (dcall E (m+1) 101 [.int .u64 i] []) fun d T=>d=.str (s++ByteArray.extract digs (i % 10) (i % 10+1)):=by
    refine wo_dcall Tryz.func101 rfl (by decide) rfl 19 rfl (fun a hal ha=>?_)
    have h0:a[0]? =some (.int .u64 i):=ha 0 (by simp)
    clear ha
    have hc:¬(i:Int)<10:=by omega
    obtain⟨r,hr⟩:∃r,r=i % 10:=⟨_,rfl⟩
    obtain⟨q,hq⟩:∃q,q=i / 10:=⟨_,rfl⟩
    have hrl:r<10:=by omega
    have t1:(i:Int).tmod 10=r:=by rw[hr];exact (Int.ofNat_tmod i 10).symm
    have t2:IntKind.u64.wrap ((i:Int).tdiv 10)=q:=by
     rw[Int.tdiv_eq_ediv_of_nonneg (by omega),show (i:Int) / 10=(q:Nat) by omega]
     exact Int.emod_eq_of_lt (by omega) (by show (q:Int)<18446744073709551616;omega)
    have m1:=mx_of (a:=s) (b:=ByteArray.extract digs r (r+1)) (by rw[s1 r hrl];omega)
    have q1:(0:Int)≤(r:Int)+1:=by omega
    have q2:((r:Int)+1).toNat=r+1:=by omega
    have q3:r≤r+1:=by omega
    have q4:r+1≤10:=by omega
    have q5:(ByteArray.mk #[48,49,50,51,52,53,54,55,56,57]).size=10:=rfl
    rw[←hq]at cs
    rw[←hr]
    unfold digs at m1 ⊢
    simp(maxSteps:=1000000)(disch:=omega)only[push_cast,decide_not,decide_eq_true_eq,decide_eq_false_iff_not,bne_eq_false_iff_eq,beq_eq_false_iff_ne,gt_iff_lt,ne_eq,not_true_eq_false,not_false_eq_true,hal,h0,hc,t1,t2,w1 r hrl,cs,m1,q1,q2,q3,q4,q5,and_self,Tryz.f101,↓WX,simprocAttr]
   obtain⟨d,T,ho,rfl⟩:=this
   exact fun st S=>callD_pure rfl rfl ho rfl
theorem rdecW {n i:Nat} (hn:20≤n) (hi:i<1000000000):∃s:ByteArray,s.size≤10∧∀st S,callD E (dcall E n) st S 42 [.int .i64 i]=some (.str s,S):=by
 obtain⟨m,rfl⟩:∃m,n=m+1:=⟨n-1,by omega⟩
 obtain⟨s,hs,cs⟩:=digW 9 (n:=m) (i:=i) (by omega) (by omega) (by omega)
 refine⟨s,hs,?_⟩
 have:WO (dcall E (m+1) 42 [.int .i64 i] []) fun d T=>d=.str s:=by
  refine wo_dcall Tryz.func42 rfl (by decide) rfl 15 rfl (fun a hal ha=>?_)
  have h0:a[0]? =some (.int .i64 i):=ha 0 (by simp)
  clear ha
  have hc:¬(i:Int)<0:=by omega
  have w1:IntKind.u64.wrap (i:Int)=i:=Int.emod_eq_of_lt (by omega) (by show (i:Int)<18446744073709551616;omega)
  simp(maxSteps:=1000000)(disch:=omega)only[push_cast,decide_not,decide_eq_true_eq,decide_eq_false_iff_not,bne_eq_false_iff_eq,beq_eq_false_iff_ne,gt_iff_lt,ne_eq,not_true_eq_false,not_false_eq_true,hal,h0,hc,w1,cs,Tryz.f42,↓WX,simprocAttr]
 obtain⟨d,T,ho,rfl⟩:=this
 exact fun st S=>callD_pure rfl rfl ho rfl
/-! ### Classes that occur before: one answer or the other -/
end Wb
end Go.Proofs.YtaklebjoenophaaGreat.Dm
namespace Go.Proofs.YtaklebjoenophaaGreat.Dm
open Go Gw
set_option linter.unusedSimpArgs false
set_option linter.unusedSimpArgs false
namespace Wb

def FN (T:List Ob) (a:Option D) (m:Nat):Prop:=∃d fs,a=some d∧GL 2 encF T d fs∧fs.length≤m
def FN1 (T:List Ob) (a:Option D) (m:Nat):Prop:=∃d fs,a=some d∧GL 2 encF T d fs∧fs.length≤m∧fs≠[]
theorem app_w {T:List Ob} {d:D} {fs:List (Int×ByteArray)} (h:GL 2 encF T d fs) (hl:fs.length≤4999999999999) (b:Bool) (e:Int) (s:ByteArray):
  ∃d' T' fs',(b=true→dAppend Tryz.prog T 51 51 d (.sl 2 [[.int .i64 e,.str s]] true)=some (d',T'))∧(b=false→d'=d∧T'=T)∧GL 2 encF T' d' fs'∧fs'.length≤fs.length+1∧(b=true∨fs≠[]→fs'≠[])∧KeepF T T':=by
 obtain⟨d',T',h1,h2,h3,h4⟩:=app_if h (by omega) b e s
 refine⟨d',T',_,h1,h2,h3,by rw[List.length_append];have:=ifF_len b e s;omega,?_,h4⟩
 rintro (hb |hb)
 ·rw[hb,ifF,if_pos rfl];simp
 ·simp[hb]
end Wb
end Go.Proofs.YtaklebjoenophaaGreat.Dm
namespace Go.Proofs.YtaklebjoenophaaGreat.Dm
open Go Gw
set_option linter.unusedSimpArgs false
set_option linter.unusedSimpArgs false
namespace Wb

def FE (T:List Ob) (a:Option D) (m:Nat) (p:Prop):Prop:=∃d fs,a=some d∧GL 2 encF T d fs∧fs.length≤m∧(fs=[]→p)
theorem app_e {T:List Ob} {d:D} {fs:List (Int×ByteArray)} (h:GL 2 encF T d fs) (hl:fs.length≤4999999999999) (b:Bool) (e:Int) (s:ByteArray):
  ∃d' T' fs',(b=true→dAppend Tryz.prog T 51 51 d (.sl 2 [[.int .i64 e,.str s]] true)=some (d',T'))∧(b=false→d'=d∧T'=T)∧GL 2 encF T' d' fs'∧fs'.length≤fs.length+1∧(fs'=[]→fs=[]∧b=false)∧KeepF T T':=by
 obtain⟨d',T',fs',h1,h2,h3,h4,h5,h6⟩:=app_w h hl b e s
 refine⟨d',T',fs',h1,h2,h3,h4,fun h0=>?_,h6⟩
 cases b
 ·refine⟨Classical.byContradiction fun hf=>h5 (.inr hf) h0,rfl⟩
 ·exact absurd h0 (h5 (.inl rfl))
end Wb
end Go.Proofs.YtaklebjoenophaaGreat.Dm
namespace Go.Proofs.YtaklebjoenophaaGreat.Dm
open Go Gw
set_option linter.unusedSimpArgs false
set_option linter.unusedSimpArgs false

inductive Cnd where
 |mk (kind:Int) (l:List Cnd) (lx:Bool) (a b pf pt pd:Int) (text:List ByteArray) (tx:Bool)
namespace Cnd
abbrev encT (s:ByteArray):List D:=[.str s]
mutual
def enc:Cnd→List D
 | .mk k l lx a b pf pt pd t tx=>[.int .i64 k,.sl 8 (encs l) lx,.int .i64 a,.int .i64 b,.int .i64 pf,.int .i64 pt,.int .i64 pd,.sl 1 (t.map encT) tx]
def encs:List Cnd→List (List D)
 | []=>[]
 |c::cs=>c.enc::encs cs
end
mutual
def lev:Cnd→Nat
 | .mk _ l _ _ _ _ _ _ _ _=>levs l+1
def levs:List Cnd→Nat
 | []=>0
 |c::cs=>max c.lev (levs cs)
end
mutual
def siz:Cnd→Nat
 | .mk _ l _ _ _ _ _ _ _ _=>sizs l+1
def sizs:List Cnd→Nat
 | []=>0
 |c::cs=>c.siz+sizs cs
end
theorem encs_map:∀l:List Cnd,encs l=l.map enc
 | []=>rfl
 |c::cs=>by rw[encs,encs_map cs];rfl
theorem encT_pure (l:List ByteArray):pureLL (l.map encT)=true:=by
 induction l with
 |nil=>rfl
 |cons f fs ih=>rw[List.map_cons,pureLL_cons,ih];rfl
mutual
theorem pure:∀c:Cnd,pureL c.enc=true
 | .mk k l lx a b pf pt pd t tx=>by
  have h1:=pures l
  have h2:=encT_pure t
  simp[enc,pureL_cons,pureL_nil,D.pure,h1,h2]
theorem pures:∀l:List Cnd,pureLL (encs l)=true
 | []=>rfl
 |c::cs=>by
  have h1:=pure c
  have h2:=pures cs
  rw[encs,pureLL_cons,h1,h2];rfl
end
mutual
theorem lev_le:∀c:Cnd,c.lev≤bulkL c.enc
 | .mk k l lx a b pf pt pd t tx=>by
  have:=levs_le l
  simp only[enc,lev,bulkL,bulkD];omega
theorem levs_le:∀l:List Cnd,levs l≤bulkLL (encs l)
 | []=>Nat.zero_le _
 |c::cs=>by
  have h1:=lev_le c
  have h2:=levs_le cs
  simp only[encs,levs,bulkLL];omega
end
mutual
theorem siz_le:∀c:Cnd,c.siz≤bulkL c.enc
 | .mk k l lx a b pf pt pd t tx=>by
  have:=sizs_le l
  simp only[enc,siz,bulkL,bulkD];omega
theorem sizs_le:∀l:List Cnd,sizs l≤bulkLL (encs l)
 | []=>Nat.zero_le _
 |c::cs=>by
  have h1:=siz_le c
  have h2:=sizs_le cs
  simp only[encs,sizs,bulkLL];omega
end
theorem levs_add (x:Cnd):∀l:List Cnd,levs (l++[x])=max (levs l) x.lev
 | []=>by simp[levs]
 |c::cs=>by rw[List.cons_append,levs,levs,levs_add x cs,Nat.max_assoc]
theorem sizs_add (x:Cnd):∀l:List Cnd,sizs (l++[x])=sizs l+x.siz
 | []=>by simp[sizs]
 |c::cs=>by rw[List.cons_append,sizs,sizs,sizs_add x cs,Nat.add_assoc]
theorem levs_take {l:List Cnd} {i:Nat} {x:Cnd} (h:l[i]? =some x):levs (l.take (i+1))=max (levs (l.take i)) x.lev:=by
 rw[List.take_add_one,h];exact levs_add x _
theorem sizs_take {l:List Cnd} {i:Nat} {x:Cnd} (h:l[i]? =some x):sizs (l.take (i+1))=sizs (l.take i)+x.siz:=by
 rw[List.take_add_one,h];exact sizs_add x _
theorem bulk_take:∀(l:List Cnd) (i:Nat),bulkLL (encs (l.take i))≤bulkLL (encs l)
 | [],i=>by simp
 |c::cs,0=>Nat.zero_le _
 |c::cs,i+1=>by
  have:=bulk_take cs i
  simp only[List.take_succ_cons,encs,bulkLL];omega
theorem bulk_get:∀ {l:List Cnd} {i:Nat} {x:Cnd},l[i]? =some x→bulkL x.enc≤bulkLL (encs l)
 | [],i,x,h=>by simp at h
 |c::cs,0,x,h=>by
  have:c=x:=by simpa using h
  subst this
  simp only[encs,bulkLL];omega
 |c::cs,i+1,x,h=>by
  have:=bulk_get (l:=cs) (i:=i) (by simpa using h)
  simp only[encs,bulkLL];omega
theorem len_le:∀l:List Cnd,l.length≤bulkLL (encs l)
 | []=>Nat.zero_le _
 |c::cs=>by
  have:=len_le cs
  have:1≤bulkL c.enc:=Nat.le_trans (by cases c;simp[lev]) (lev_le c)
  simp only[encs,bulkLL,List.length_cons];omega
theorem encs_len (l:List Cnd):(encs l).length=l.length:=by rw[encs_map,List.length_map]
theorem encs_get {l:List Cnd} {i:Nat} {x:Cnd} (h:l[i]? =some x):(encs l)[i]? =some x.enc:=by rw[encs_map,List.getElem?_map,h];rfl
end Cnd
set_option maxHeartbeats 4000000 in
set_option maxRecDepth 100000 in
theorem levels_c:∀(m:Nat) (n:Nat) (c:Cnd),bulkL c.enc≤m→m≤1048576→2000000+m≤n→∀st S,callD E (dcall E n) st S 153 [.agg c.enc]=some (.int .i64 c.lev,S)
 |0,n,.mk k l lx u v pf pt pd t tx,h,_,_=>by simp only[Cnd.enc,bulkL,bulkD]at h;omega
 |m+1,n,.mk k l lx u v pf pt pd t tx,h,hm,hn=>by
  obtain⟨n,rfl⟩:∃n',n=n'+1:=⟨n-1,by omega⟩
  have hc:(Cnd.mk k l lx u v pf pt pd t tx).enc=[.int .i64 k,.sl 8 (Cnd.encs l) lx,.int .i64 u,.int .i64 v,.int .i64 pf,.int .i64 pt,.int .i64 pd,.sl 1 (t.map Cnd.encT) tx]:=by rw[Cnd.enc]
  have hp:=Cnd.pure (.mk k l lx u v pf pt pd t tx)
  rw[hc]at h hp ⊢
  simp only[bulkL,bulkD]at h
  have hl:=Cnd.len_le l
  have hlv:=Cnd.levs_le l
  have hel:=Cnd.encs_len l
  have:WO (dcall E (n+1) 153 [.agg [.int .i64 k,.sl 8 (Cnd.encs l) lx,.int .i64 u,.int .i64 v,.int .i64 pf,.int .i64 pt,.int .i64 pd,.sl 1 (t.map Cnd.encT) tx]] []) fun d T=>d=.int .i64 ((Cnd.levs l+1:Nat):Int):=by
   refine wo_dcall Tryz.func153 rfl (by decide) rfl 22 rfl (fun a hal ha=>?_)
   have h0:a[0]? =some (.agg [.int .i64 k,.sl 8 (Cnd.encs l) lx,.int .i64 u,.int .i64 v,.int .i64 pf,.int .i64 pt,.int .i64 pd,.sl 1 (t.map Cnd.encT) tx]):=ha 0 (by simp)
   clear ha
   simp(maxSteps:=1000000)(disch:=omega)only[push_cast,decide_not,decide_eq_true_eq,decide_eq_false_iff_not,bne_eq_false_iff_eq,beq_eq_false_iff_ne,gt_iff_lt,ne_eq,not_true_eq_false,not_false_eq_true,hal,h0,↓WX,simprocAttr]
   refine wl_loop (fun i a T=>T=[Ob.row 8 [[.int .i64 k,.sl 8 (Cnd.encs l) lx,.int .i64 u,.int .i64 v,.int .i64 pf,.int .i64 pt,.int .i64 pd,.sl 1 (t.map Cnd.encT) tx]]]∧a.length=22∧a[1]? =some (.loc 0 0 0)∧a[3]? =some (.int .i64 (Cnd.levs (l.take i)))∧a[4]? =some (.int .i64 i)) l.length ?_ (by omega) ?_
   ·simp(maxSteps:=1000000)(disch:=omega)only[push_cast,decide_not,decide_eq_true_eq,decide_eq_false_iff_not,bne_eq_false_iff_eq,beq_eq_false_iff_ne,gt_iff_lt,ne_eq,not_true_eq_false,not_false_eq_true,hal,h0,Int.natCast_zero,List.take_zero,Cnd.levs,↓WX,simprocAttr]
   clear hal h0 a
   rintro i a T hi ⟨rfl,hal,h1,h3,h4⟩
   rcases Nat.lt_or_eq_of_le hi with hlt |rfl
   case inr=>
    rw[List.take_length]at h3
    simp(maxSteps:=1000000)(disch:=omega)only[push_cast,decide_not,decide_eq_true_eq,decide_eq_false_iff_not,bne_eq_false_iff_eq,beq_eq_false_iff_ne,gt_iff_lt,ne_eq,not_true_eq_false,not_false_eq_true,hal,h1,h3,h4,hel,Int.lt_irrefl,wrap_ok,Int.natCast_add,Int.natCast_one,Tryz.f153,↓WX,simprocAttr]
   obtain⟨x,hx⟩:∃x,l[i]? =some x:=⟨l[i],by simp⟩
   have hltc:(i:Int)<l.length:=by omega
   have hb:=Cnd.bulk_get hx
   have cx:=levels_c m n x (by omega) (by omega) (by omega)
   have hg:=Cnd.encs_get hx
   have ht:=Cnd.levs_take hx
   obtain⟨lv,hlv'⟩:∃v,v=x.lev:=⟨_,rfl⟩
   rw[←hlv']at cx ht
   have hlb:=Cnd.lev_le x
   rw[←hlv']at hlb
   cases x with |mk k' l' lx' u' v' pf' pt' pd' t' tx'=>?_
   simp only[Cnd.enc]at cx hg
   have hmax:((max (Cnd.levs (l.take i)) lv:Nat):Int)=max ((Cnd.levs (l.take i):Nat):Int) (lv:Int):=by omega
   simp(maxSteps:=1000000)(disch:=omega)only[push_cast,decide_not,decide_eq_true_eq,decide_eq_false_iff_not,bne_eq_false_iff_eq,beq_eq_false_iff_ne,gt_iff_lt,ne_eq,not_true_eq_false,not_false_eq_true,hal,h1,h3,h4,hel,hltc,hlt,hg,cx,ht,hmax,wrap_ok,Int.natCast_add,Int.natCast_one,↓WX,simprocAttr]
   split <;> omega
  obtain⟨d,T,ho,rfl⟩:=this
  intro st S
  rw[show (Cnd.mk k l lx u v pf pt pd t tx).lev=Cnd.levs l+1 by rw[Cnd.lev]]
  exact callD_pure rfl (by rw[pureL_cons,D.pure,hp];rfl) ho rfl
set_option maxHeartbeats 4000000 in
set_option maxRecDepth 100000 in
theorem Size_c:∀(m:Nat) (n:Nat) (c:Cnd),bulkL c.enc≤m→m≤1048576→2000000+m≤n→∀st S,callD E (dcall E n) st S 154 [.agg c.enc]=some (.int .i64 c.siz,S)
 |0,n,.mk k l lx u v pf pt pd t tx,h,_,_=>by simp only[Cnd.enc,bulkL,bulkD]at h;omega
 |m+1,n,.mk k l lx u v pf pt pd t tx,h,hm,hn=>by
  obtain⟨n,rfl⟩:∃n',n=n'+1:=⟨n-1,by omega⟩
  have hc:(Cnd.mk k l lx u v pf pt pd t tx).enc=[.int .i64 k,.sl 8 (Cnd.encs l) lx,.int .i64 u,.int .i64 v,.int .i64 pf,.int .i64 pt,.int .i64 pd,.sl 1 (t.map Cnd.encT) tx]:=by rw[Cnd.enc]
  have hp:=Cnd.pure (.mk k l lx u v pf pt pd t tx)
  rw[hc]at h hp ⊢
  simp only[bulkL,bulkD]at h
  have hl:=Cnd.len_le l
  have hlv:=Cnd.sizs_le l
  have hel:=Cnd.encs_len l
  have:WO (dcall E (n+1) 154 [.agg [.int .i64 k,.sl 8 (Cnd.encs l) lx,.int .i64 u,.int .i64 v,.int .i64 pf,.int .i64 pt,.int .i64 pd,.sl 1 (t.map Cnd.encT) tx]] []) fun d T=>d=.int .i64 ((Cnd.sizs l+1:Nat):Int):=by
   refine wo_dcall Tryz.func154 rfl (by decide) rfl 21 rfl (fun a hal ha=>?_)
   have h0:a[0]? =some (.agg [.int .i64 k,.sl 8 (Cnd.encs l) lx,.int .i64 u,.int .i64 v,.int .i64 pf,.int .i64 pt,.int .i64 pd,.sl 1 (t.map Cnd.encT) tx]):=ha 0 (by simp)
   clear ha
   simp(maxSteps:=1000000)(disch:=omega)only[push_cast,decide_not,decide_eq_true_eq,decide_eq_false_iff_not,bne_eq_false_iff_eq,beq_eq_false_iff_ne,gt_iff_lt,ne_eq,not_true_eq_false,not_false_eq_true,hal,h0,↓WX,simprocAttr]
   refine wl_loop (fun i a T=>T=[Ob.row 8 [[.int .i64 k,.sl 8 (Cnd.encs l) lx,.int .i64 u,.int .i64 v,.int .i64 pf,.int .i64 pt,.int .i64 pd,.sl 1 (t.map Cnd.encT) tx]]]∧a.length=21∧a[1]? =some (.loc 0 0 0)∧a[3]? =some (.int .i64 ((Cnd.sizs (l.take i)+1:Nat):Int))∧a[4]? =some (.int .i64 i)) l.length ?_ (by omega) ?_
   ·simp(maxSteps:=1000000)(disch:=omega)only[push_cast,decide_not,decide_eq_true_eq,decide_eq_false_iff_not,bne_eq_false_iff_eq,beq_eq_false_iff_ne,gt_iff_lt,ne_eq,not_true_eq_false,not_false_eq_true,hal,h0,Int.natCast_zero,List.take_zero,Cnd.sizs,↓WX,simprocAttr]
   clear hal h0 a
   rintro i a T hi ⟨rfl,hal,h1,h3,h4⟩
   rcases Nat.lt_or_eq_of_le hi with hlt |rfl
   case inr=>
    rw[List.take_length]at h3
    simp(maxSteps:=1000000)(disch:=omega)only[push_cast,decide_not,decide_eq_true_eq,decide_eq_false_iff_not,bne_eq_false_iff_eq,beq_eq_false_iff_ne,gt_iff_lt,ne_eq,not_true_eq_false,not_false_eq_true,hal,h1,h3,h4,hel,Int.lt_irrefl,wrap_ok,Int.natCast_add,Int.natCast_one,Tryz.f154,↓WX,simprocAttr]
   obtain⟨x,hx⟩:∃x,l[i]? =some x:=⟨l[i],by simp⟩
   have hltc:(i:Int)<l.length:=by omega
   have hb:=Cnd.bulk_get hx
   have cx:=Size_c m n x (by omega) (by omega) (by omega)
   have hg:=Cnd.encs_get hx
   have ht:=Cnd.sizs_take hx
   obtain⟨lv,hlv'⟩:∃v,v=x.siz:=⟨_,rfl⟩
   rw[←hlv']at cx ht
   have hlb:=Cnd.siz_le x
   rw[←hlv']at hlb
   cases x with |mk k' l' lx' u' v' pf' pt' pd' t' tx'=>?_
   simp only[Cnd.enc]at cx hg
   have hbt:=Cnd.bulk_take l i
   have hst:=Cnd.sizs_le (l.take i)
   have hbt2:=Cnd.bulk_take l (i+1)
   have hst2:=Cnd.sizs_le (l.take (i+1))
   rw[ht]at hst2
   have hw:IntKind.i64.wrap (((Cnd.sizs (l.take i):Nat):Int)+1+(lv:Int))=((Cnd.sizs (l.take i):Nat):Int)+1+lv:=wrap_ok (by omega) (by omega)
   simp(maxSteps:=1000000)(disch:=omega)only[push_cast,decide_not,decide_eq_true_eq,decide_eq_false_iff_not,bne_eq_false_iff_eq,beq_eq_false_iff_ne,gt_iff_lt,ne_eq,not_true_eq_false,not_false_eq_true,hal,h1,h3,h4,hel,hltc,hlt,hg,cx,ht,hw,wrap_ok,Int.natCast_add,Int.natCast_one,↓WX,simprocAttr]
   omega
  obtain⟨d,T,ho,rfl⟩:=this
  intro st S
  rw[show (Cnd.mk k l lx u v pf pt pd t tx).siz=Cnd.sizs l+1 by rw[Cnd.siz]]
  exact callD_pure rfl (by rw[pureL_cons,D.pure,hp];rfl) ho rfl
end Go.Proofs.YtaklebjoenophaaGreat.Dm
