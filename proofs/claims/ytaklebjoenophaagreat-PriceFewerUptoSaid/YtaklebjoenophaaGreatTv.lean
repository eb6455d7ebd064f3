/-
  What a datum of a plain type is, type by type.
  The plain law of the reference's distances: each change brings the search nearer to its end.
  The reference's violations of configurations of any size: a list, and empty only where the configurations are small.
  The reference's violations of cabins and of configurations of any size: none, then they are small.
  Conditions of rules, as a tree; how many levels and parts they have.
-/
import Derived.Test.YtaklebjoenophaaGreatTod
import Derived.Test.YtaklebjoenophaaGreatPoA
set_option maxHeartbeats 64000000
set_option maxRecDepth 100000
set_option linter.unusedSimpArgs false
set_option linter.unusedVariables false
namespace Go.Proofs.YtaklebjoenophaaGreat.Dm
open Go Go.RowKit
section
variable {P : Program} {t e : TypeId} {k : IntKind} {d : D} {cs : List D}
theorem TC.toInt (ht:P.underlying t=some (.int k)) (h:TC P t cs):∃n,cs=[.int k n]/\(Lit.int k n).wf=true:=by
 cases h with
 |int h hw=>rw[ht]at h;cases h;exact⟨_,rfl,hw⟩
 |str h=>rw[ht]at h;cases h
 |bool h=>rw[ht]at h;cases h
 |nils h=>rw[ht]at h;cases h
 |sl h=>rw[ht]at h;cases h
 |struct h=>rw[ht]at h;cases h
 |array h=>rw[ht]at h;cases h
theorem TC.toStr (ht:P.underlying t=some .string) (h:TC P t cs):∃s:ByteArray,cs=[.str s]/\s.size<=maxLen:=by
 cases h with
 |int h hw=>rw[ht]at h;cases h
 |str h hs=>exact⟨_,rfl,hs⟩
 |bool h=>rw[ht]at h;cases h
 |nils h=>rw[ht]at h;cases h
 |sl h=>rw[ht]at h;cases h
 |struct h=>rw[ht]at h;cases h
 |array h=>rw[ht]at h;cases h
theorem TC.toBool (ht:P.underlying t=some .bool) (h:TC P t cs):∃b,cs=[.bool b]:=by
 cases h with
 |int h hw=>rw[ht]at h;cases h
 |str h hs=>rw[ht]at h;cases h
 |bool h b=>exact⟨_,rfl⟩
 |nils h=>rw[ht]at h;cases h
 |sl h=>rw[ht]at h;cases h
 |struct h=>rw[ht]at h;cases h
 |array h=>rw[ht]at h;cases h
theorem TC.toSlice (ht:P.underlying t=some (.slice e)) (h:TC P t cs):cs=[.nils]∨∃es x,cs=[.sl (P.cellsOf e) es x]/\es.length<=maxLen/\∀(j:Nat) (c:List D),es[j]?=some c->TC P e c:=by
 cases h with
 |int h hw=>rw[ht]at h;cases h
 |str h hs=>rw[ht]at h;cases h
 |bool h=>rw[ht]at h;cases h
 |nils h=>exact .inl rfl
 |sl h hl hes=>rw[ht]at h;cases h;exact .inr ⟨_,_,rfl,hl,hes⟩
 |struct h=>rw[ht]at h;cases h
 |array h=>rw[ht]at h;cases h
theorem TC.toStruct {fs:Array Field} (ht:P.underlying t=some (.struct fs)) (h:TC P t cs):cs.length=P.cellsOf t/\∀f∈fs.toList,TC P f.type ((cs.drop f.offset).take (P.cellsOf f.type)):=by
 cases h with
 |int h hw=>rw[ht]at h;cases h
 |str h hs=>rw[ht]at h;cases h
 |bool h=>rw[ht]at h;cases h
 |nils h=>rw[ht]at h;cases h
 |sl h=>rw[ht]at h;cases h
 |struct h hl hf=>rw[ht]at h;cases h;exact⟨hl,hf⟩
 |array h=>rw[ht]at h;cases h
theorem TC.toArray {n:Nat} (ht:P.underlying t=some (.array n e)) (h:TC P t cs):cs.length=P.cellsOf t/\∀i,i<n->TC P e ((cs.drop (i*P.cellsOf e)).take (P.cellsOf e)):=by
 cases h with
 |int h hw=>rw[ht]at h;cases h
 |str h hs=>rw[ht]at h;cases h
 |bool h=>rw[ht]at h;cases h
 |nils h=>rw[ht]at h;cases h
 |sl h=>rw[ht]at h;cases h
 |struct h=>rw[ht]at h;cases h
 |array h hl hf=>rw[ht]at h;cases h;exact⟨hl,hf⟩
theorem TV.one (hg:aggT P t=some false) (h:TV P t d):TC P t [d]:=by
 rcases h with ⟨h,-⟩ | ⟨-,h⟩
 ·rw[hg]at h;cases h
 ·exact h
theorem TV.agg (hg:aggT P t=some true) (h:TV P t d):∃ds,d=.agg ds/\TC P t ds:=by
 rcases h with ⟨-,h⟩ | ⟨h,-⟩
 ·exact h
 ·rw[hg]at h;cases h
theorem TV.toInt (ht:P.underlying t=some (.int k)) (h:TV P t d):∃n,d=.int k n/\(Lit.int k n).wf=true:=by
 obtain⟨n,hn,hw⟩:=(h.one (by rw[aggT,ht];rfl)).toInt ht
 exact⟨n,by simpa using hn,hw⟩
theorem TV.toStr (ht:P.underlying t=some .string) (h:TV P t d):∃s:ByteArray,d=.str s/\s.size<=maxLen:=by
 obtain⟨n,hn,hw⟩:=(h.one (by rw[aggT,ht];rfl)).toStr ht
 exact⟨n,by simpa using hn,hw⟩
theorem TV.toBool (ht:P.underlying t=some .bool) (h:TV P t d):∃b,d=.bool b:=by
 obtain⟨n,hn⟩:=(h.one (by rw[aggT,ht];rfl)).toBool ht
 exact⟨n,by simpa using hn⟩
theorem TV.toSlice (ht:P.underlying t=some (.slice e)) (h:TV P t d):d=.nils∨∃es x,d=.sl (P.cellsOf e) es x/\es.length<=maxLen/\∀(j:Nat) (c:List D),es[j]?=some c->TC P e c:=by
 rcases (h.one (by rw[aggT,ht];rfl)).toSlice ht with h | ⟨es,x,h,hl,hes⟩
 ·exact .inl (by simpa using h)
 ·exact .inr ⟨es,x,by simpa using h,hl,hes⟩
theorem TV.toStruct {fs:Array Field} (ht:P.underlying t=some (.struct fs)) (h:TV P t d):∃cs,d=.agg cs/\cs.length=P.cellsOf t/\∀f∈fs.toList,TC P f.type ((cs.drop f.offset).take (P.cellsOf f.type)):=by
 obtain⟨ds,hd,hc⟩:=h.agg (by rw[aggT,ht];rfl)
 exact⟨ds,hd,hc.toStruct ht⟩
theorem TVs.inv {ts:List TypeId} {xs:List D} (h:TVs P (t::ts) xs):∃d ds,xs=d::ds/\TV P t d/\TVs P ts ds:=by
 cases h with
 |cons h hs=>exact⟨_,_,rfl,h,hs⟩
theorem TVs.inv0 {xs:List D} (h:TVs P [] xs):xs=[]:=by
 cases h;rfl
end
open Gw
theorem nodup_len {α:Type} [DecidableEq α]:∀ {l m:List α},l.Nodup->(∀x∈l,x∈m)->l.length<=m.length
 | [],_,_,_=>Xb _
 |x::xs,m,h,g=>by
  have hx:=g x Yx
  rw[List.nodup_cons]at h
  have:=nodup_len (l:=xs) (m:=m.erase x) h.2 (λy hy=>(List.mem_erase_of_ne (λe=>h.1 (by rw[<-e];exact hy))).2 (g y (Yv _ hy)))
  rw[List.length_erase_of_mem hx]at this
  have:0<m.length:=List.length_pos_of_mem hx
  rw[Zd]
  omega
def sumV:List (ByteArray×Int)->Nat
 | []=>0
 |p::ps=>p.2.toNat+sumV ps
theorem sumV_append (l m:List (ByteArray×Int)):sumV (l++m)=sumV l+sumV m:=by
 induction l with
 |nil=>rw[Zz];exact (Nat.zero_add _).symm
 |cons p ps ih=>
  show p.2.toNat+sumV (ps++m)=(p.2.toNat+sumV ps)+sumV m
  rw[ih]
  omega
theorem sumV_set:∀ {l:List (ByteArray×Int)} {i:Nat} {x:ByteArray×Int} (y:ByteArray×Int),l[i]?=some x->sumV (l.set i y)+x.2.toNat=sumV l+y.2.toNat
 | [],_,_,_,h=>by cases h
 |p::ps,0,x,y,h=>by
  obtain rfl:p=x:=by simpa using h
  rw[List.set_cons_zero]
  unfold sumV
  omega
 |p::ps,i+1,x,y,h=>by
  have:=sumV_set (l:=ps) (i:=i) y (by simpa using h)
  rw[List.set_cons_succ]
  unfold sumV
  omega
theorem reF_cases (s:ByteArray) (v:Int):∀l:List (ByteArray×Int),(s ∉ l.map (·.1)/\reF s v l=(l++[(s,v)],true))∨∃(i:Nat) (x:ByteArray×Int),l[i]?=some x/\x.1=s/\((x.2<=v/\reF s v l=(l,false))∨(v<x.2/\reF s v l=(l.set i (s,v),true)))
 | []=>.inl ⟨λh=>(by cases h),rfl⟩
 |p::ps=>by
  unfold reF
  by_cases c:p.1=s
  ·right
   refine⟨0,p,rfl,c,?_⟩
   rw[if_pos c]
   by_cases c2:p.2<=v
   ·exact .inl ⟨c2,by rw[if_pos c2]⟩
   ·exact .inr ⟨by omega,by rw[if_neg c2,List.set_cons_zero,c]⟩
  ·rw[if_neg c]
   rcases reF_cases s v ps with ⟨h1,h2⟩ | ⟨i,x,h1,h2,h3⟩
   ·left
    refine⟨λh=>?_,by rw[h2];rfl⟩
    rw[Zh,List.mem_cons]at h
    rcases h with h |h
    ·exact c h.symm
    ·exact h1 h
   ·right
    refine⟨i+1,x,by simpa using h1,h2,?_⟩
    rcases h3 with ⟨g1,g2⟩ | ⟨g1,g2⟩
    ·exact .inl ⟨g1,by rw[g2]⟩
    ·exact .inr ⟨g1,by rw[g2,List.set_cons_succ]⟩
structure Gd (ns:List ByteArray) (l:List (ByteArray×Int)):Prop where
 nd:(l.map (·.1)).Nodup
 sub:∀p∈l,p.1∈ns
 lo:∀p∈l,0<=p.2
 hi:∀p∈l,p.2+20000<=20000*(l.length:Int)
def muF (ns:List ByteArray) (l:List (ByteArray×Int)):Nat:=sumV l+(ns.length-l.length)*900000
theorem Gd.len {ns:List ByteArray} {l:List (ByteArray×Int)} (h:Gd ns l):l.length<=ns.length:=by
 have:=nodup_len h.nd (m:=ns) (λx hx=>by obtain⟨p,hp,rfl⟩:=Zy.1 hx;exact h.sub p hp)
 rwa [Yz]at this
theorem reF_good {ns:List ByteArray} {l:List (ByteArray×Int)} {s:ByteArray} {v:Int} (h:Gd ns l) (hn:ns.length<=41) (hs:s∈ns) (h0:0<=v) (h1:v<=20000*(l.length:Int)):
  Gd ns (reF s v l).1/\muF ns (reF s v l).1<=muF ns l/\((reF s v l).2=true->muF ns (reF s v l).1+1<=muF ns l):=by
 have hlen:=h.len
 rcases reF_cases s v l with ⟨g1,g2⟩ | ⟨i,x,g1,g2,⟨g3,g4⟩ | ⟨g3,g4⟩⟩
 ·rw[g2]
  have hnd:((l++[(s,v)]).map (·.1)).Nodup:=by
   rw[List.map_append,List.nodup_append]
   exact⟨h.nd,by simp,λa ha b hb e=>by
    have:b=s:=by simpa using hb
    exact g1 (by rw[<-this,<-e];exact ha)⟩
  have hg:Gd ns (l++[(s,v)]):=⟨hnd,λp hp=>by
    rcases List.mem_append.1 hp with hp |hp
    ·exact h.sub p hp
    ·obtain rfl:p=(s,v):=by simpa using hp
     exact hs,λp hp=>by
    rcases List.mem_append.1 hp with hp |hp
    ·exact h.lo p hp
    ·obtain rfl:p=(s,v):=by simpa using hp
     exact h0,λp hp=>by
    rw[Yd,List.length_singleton]
    rcases List.mem_append.1 hp with hp |hp
    ·have:=h.hi p hp
     omega
    ·obtain rfl:p=(s,v):=by simpa using hp
     dsimp only
     omega⟩
  have hl2:=hg.len
  rw[Yd,List.length_singleton]at hl2
  have hmu:muF ns (l++[(s,v)])+1<=muF ns l:=by
   unfold muF
   rw[sumV_append,Yd,List.length_singleton]
   have e0:sumV [(s,v)]=v.toNat:=by simp[sumV]
   have hv:v.toNat<=820000:=by omega
   obtain⟨t,ht⟩:∃t,ns.length=l.length+1+t:=⟨ns.length-(l.length+1),by omega⟩
   rw[e0,show ns.length-(l.length+1)=t by omega,show ns.length-l.length=t+1 by omega]
   omega
  exact⟨hg,Nat.le_of_succ_le hmu,λ_=>hmu⟩
 ·rw[g4]
  exact⟨h,Yt _,λe=>by cases e⟩
 ·rw[g4]
  have hx:=Yg g1
  have hm:∀p∈l.set i (s,v),p∈l∨p=(s,v):=λp hp=>List.mem_or_eq_of_mem_set hp
  have hk:(l.set i (s,v)).map (·.1)=l.map (·.1):=by
   rw[List.map_set]
   apply List.ext_getElem?
   intro j
   by_cases e:i=j
   ·subst e
    have hi':i<(l.map (·.1)).length:=by
     rw[Yz]
     exact (Ya.1 g1).1
    rw[Yo hi',Zm,g1,Zw,g2]
   ·rw[Yc e]
  have hsum:=sumV_set (s,v) g1
  have hx0:=h.lo x hx
  refine⟨⟨by rw[hk];exact h.nd,λp hp=>?_,λp hp=>?_,λp hp=>?_⟩,?_,λ_=>?_⟩
  ·rcases hm p hp with hp |rfl
   ·exact h.sub p hp
   ·exact hs
  ·rcases hm p hp with hp |rfl
   ·exact h.lo p hp
   ·exact h0
  ·rw[Zg]
   rcases hm p hp with hp |rfl
   ·exact h.hi p hp
   ·have:=h.hi x hx
    dsimp only
    omega
  ·show muF ns (l.set i (s,v))<=muF ns l
   unfold muF
   rw[Zg]
   dsimp only at hsum
   omega
  ·show muF ns (l.set i (s,v))+1<=muF ns l
   unfold muF
   rw[Zg]
   dsimp only at hsum
   omega
theorem rchF_hi {ns:List ByteArray} {l:List (ByteArray×Int)} {s:ByteArray} (h:Gd ns l) (h0:0<=rchF s l):rchF s l+20000<=20000*(l.length:Int):=by
 have:∀m:List (ByteArray×Int),(∀p∈m,p.2+20000<=20000*(l.length:Int))->0<=rchF s m->rchF s m+20000<=20000*(l.length:Int):=by
  intro m
  induction m with
  |nil=>intro _ h;unfold rchF at h;omega
  |cons p ps ih=>
   intro g k
   unfold rchF at k ⊢
   split at k
   ·rename_i c
    rw[if_pos c]
    exact g p Yx
   ·rename_i c
    rw[if_neg c]
    exact ih (λq hq=>g q (Yv _ hq)) k
 exact this l h.hi h0
namespace Wb
theorem app_w {T:List Ob} {d:D} {fs:List (Int×ByteArray)} (h:GL 2 encF T d fs) (hl:fs.length<=4999999999999) (b:Bool) (e:Int) (s:ByteArray):
  ∃d' T' fs',(b=true->dAppend Tryz.prog T 51 51 d (.sl 2 [[.int .i64 e,.str s]] true)=some (d',T'))/\(b=false->d'=d/\T'=T)/\GL 2 encF T' d' fs'/\fs'.length<=fs.length+1/\(b=true∨fs≠[]->fs'≠[])/\KeepF T T':=by
 obtain⟨d',T',h1,h2,h3,h4⟩:=app_if h (by omega) b e s
 refine⟨d',T',_,h1,h2,h3,by rw[Yd];have:=ifF_len b e s;omega,?_,h4⟩
 rintro (hb |hb)
 ·rw[hb,ifF,if_pos rfl];simp
 ·simp[hb]
end Wb
namespace Wb
theorem app_e {T:List Ob} {d:D} {fs:List (Int×ByteArray)} (h:GL 2 encF T d fs) (hl:fs.length<=4999999999999) (b:Bool) (e:Int) (s:ByteArray):
  ∃d' T' fs',(b=true->dAppend Tryz.prog T 51 51 d (.sl 2 [[.int .i64 e,.str s]] true)=some (d',T'))/\(b=false->d'=d/\T'=T)/\GL 2 encF T' d' fs'/\fs'.length<=fs.length+1/\(fs'=[]->fs=[]/\b=false)/\KeepF T T':=by
 obtain⟨d',T',fs',h1,h2,h3,h4,h5,h6⟩:=app_w h hl b e s
 refine⟨d',T',fs',h1,h2,h3,h4,λh0=>?_,h6⟩
 cases b
 ·refine⟨Classical.byContradiction λhf=>h5 (.inr hf) h0,rfl⟩
 ·exact absurd h0 (h5 (.inl rfl))
end Wb
inductive Cnd where
 |mk (kind:Int) (l:List Cnd) (lx:Bool) (a b pf pt pd:Int) (text:List ByteArray) (tx:Bool)
namespace Cnd
abbrev encT (s:ByteArray):List D:=[.str s]
mutual
def enc:Cnd->List D
 | .mk k l lx a b pf pt pd t tx=>[.int .i64 k,.sl 8 (encs l) lx,.int .i64 a,.int .i64 b,.int .i64 pf,.int .i64 pt,.int .i64 pd,.sl 1 (t.map encT) tx]
def encs:List Cnd->List (List D)
 | []=>[]
 |c::cs=>c.enc::encs cs
end
mutual
def lev:Cnd->Nat
 | .mk _ l _ _ _ _ _ _ _ _=>levs l+1
def levs:List Cnd->Nat
 | []=>0
 |c::cs=>max c.lev (levs cs)
end
mutual
def siz:Cnd->Nat
 | .mk _ l _ _ _ _ _ _ _ _=>sizs l+1
def sizs:List Cnd->Nat
 | []=>0
 |c::cs=>c.siz+sizs cs
end
theorem encs_map:∀l:List Cnd,encs l=l.map enc
 | []=>rfl
 |c::cs=>by rw[encs,encs_map cs];rfl
theorem encT_pure (l:List ByteArray):pureLL (l.map encT)=true:=by
 induction l with
 |nil=>rfl
 |cons f fs ih=>rw[Zh,pureLL_cons,ih];rfl
mutual
theorem pure:∀c:Cnd,pureL c.enc=true
 | .mk k l lx a b pf pt pd t tx=>by
  have h1:=pures l
  have h2:=encT_pure t
  simp[enc,pureL_cons,pureL_nil,D.pure,h1,h2]
theorem pures:∀l:List Cnd,pureLL (encs l)=true
 | []=>rfl
 |c::cs=>by
  have h1:=pure c
  have h2:=pures cs
  rw[encs,pureLL_cons,h1,h2];rfl
end
mutual
theorem lev_le:∀c:Cnd,c.lev<=bulkL c.enc
 | .mk k l lx a b pf pt pd t tx=>by
  have:=levs_le l
  simp only[enc,lev,bulkL,bulkD];omega
theorem levs_le:∀l:List Cnd,levs l<=bulkLL (encs l)
 | []=>Xb _
 |c::cs=>by
  have h1:=lev_le c
  have h2:=levs_le cs
  simp only[encs,levs,bulkLL];omega
end
mutual
theorem siz_le:∀c:Cnd,c.siz<=bulkL c.enc
 | .mk k l lx a b pf pt pd t tx=>by
  have:=sizs_le l
  simp only[enc,siz,bulkL,bulkD];omega
theorem sizs_le:∀l:List Cnd,sizs l<=bulkLL (encs l)
 | []=>Xb _
 |c::cs=>by
  have h1:=siz_le c
  have h2:=sizs_le cs
  simp only[encs,sizs,bulkLL];omega
end
theorem levs_add (x:Cnd):∀l:List Cnd,levs (l++[x])=max (levs l) x.lev
 | []=>by simp[levs]
 |c::cs=>by rw[Ze,levs,levs,levs_add x cs,Nat.max_assoc]
theorem sizs_add (x:Cnd):∀l:List Cnd,sizs (l++[x])=sizs l+x.siz
 | []=>by simp[sizs]
 |c::cs=>by rw[Ze,sizs,sizs,sizs_add x cs,Nat.add_assoc]
theorem levs_take {l:List Cnd} {i:Nat} {x:Cnd} (h:l[i]?=some x):levs (l.take (i+1))=max (levs (l.take i)) x.lev:=by
 rw[List.take_add_one,h];exact levs_add x _
theorem sizs_take {l:List Cnd} {i:Nat} {x:Cnd} (h:l[i]?=some x):sizs (l.take (i+1))=sizs (l.take i)+x.siz:=by
 rw[List.take_add_one,h];exact sizs_add x _
theorem bulk_take:∀(l:List Cnd) (i:Nat),bulkLL (encs (l.take i))<=bulkLL (encs l)
 | [],i=>by simp
 |c::cs,0=>Xb _
 |c::cs,i+1=>by
  have:=bulk_take cs i
  simp only[List.take_succ_cons,encs,bulkLL];omega
theorem bulk_get:∀ {l:List Cnd} {i:Nat} {x:Cnd},l[i]?=some x->bulkL x.enc<=bulkLL (encs l)
 | [],i,x,h=>by simp at h
 |c::cs,0,x,h=>by
  have:c=x:=by simpa using h
  subst this
  simp only[encs,bulkLL];omega
 |c::cs,i+1,x,h=>by
  have:=bulk_get (l:=cs) (i:=i) (by simpa using h)
  simp only[encs,bulkLL];omega
theorem len_le:∀l:List Cnd,l.length<=bulkLL (encs l)
 | []=>Xb _
 |c::cs=>by
  have:=len_le cs
  have:1<=bulkL c.enc:=Zu (by cases c;simp[lev]) (lev_le c)
  simp only[encs,bulkLL,Zd];omega
theorem encs_len (l:List Cnd):(encs l).length=l.length:=by rw[encs_map,Yz]
theorem encs_get {l:List Cnd} {i:Nat} {x:Cnd} (h:l[i]?=some x):(encs l)[i]?=some x.enc:=by rw[encs_map,Zm,h];rfl
end Cnd
theorem levels_c:∀(m:Nat) (n:Nat) (c:Cnd),bulkL c.enc<=m->m<=1048576->2000000+m<=n->∀st S,callD E (dcall E n) st S 153 [.agg c.enc]=some (.int .i64 c.lev,S)
 |0,n,.mk k l lx u v pf pt pd t tx,h,_,_=>by simp only[Cnd.enc,bulkL,bulkD]at h;omega
 |m+1,n,.mk k l lx u v pf pt pd t tx,h,hm,hn=>by
  obtain⟨n,rfl⟩:∃n',n=n'+1:=⟨n-1,by omega⟩
  have hc:(Cnd.mk k l lx u v pf pt pd t tx).enc=[.int .i64 k,.sl 8 (Cnd.encs l) lx,.int .i64 u,.int .i64 v,.int .i64 pf,.int .i64 pt,.int .i64 pd,.sl 1 (t.map Cnd.encT) tx]:=by rw[Cnd.enc]
  have hp:=Cnd.pure (.mk k l lx u v pf pt pd t tx)
  rw[hc]at h hp ⊢
  simp only[bulkL,bulkD]at h
  have hl:=Cnd.len_le l
  have hlv:=Cnd.levs_le l
  have hel:=Cnd.encs_len l
  have:WO (dcall E (n+1) 153 [.agg [.int .i64 k,.sl 8 (Cnd.encs l) lx,.int .i64 u,.int .i64 v,.int .i64 pf,.int .i64 pt,.int .i64 pd,.sl 1 (t.map Cnd.encT) tx]] []) λd T=>d=.int .i64 ((Cnd.levs l+1:Nat):Int):=by
   refine wo_dcall Tryz.func153 rfl (by decide) rfl 22 rfl (λa hal ha=>?_)
   have h0:a[0]?=some (.agg [.int .i64 k,.sl 8 (Cnd.encs l) lx,.int .i64 u,.int .i64 v,.int .i64 pf,.int .i64 pt,.int .i64 pd,.sl 1 (t.map Cnd.encT) tx]):=ha 0 (by simp)
   clear ha
   simp(maxSteps:=1000000)(disch:=omega)only[push_cast,h0,↓WX,simprocAttr]
   refine wl_loop (λi a T=>T=[Ob.row 8 [[.int .i64 k,.sl 8 (Cnd.encs l) lx,.int .i64 u,.int .i64 v,.int .i64 pf,.int .i64 pt,.int .i64 pd,.sl 1 (t.map Cnd.encT) tx]]]/\a.length=22/\a[1]?=some (.loc 0 0 0)/\a[3]?=some (.int .i64 (Cnd.levs (l.take i)))/\a[4]?=some (.int .i64 i)) l.length ?_ (by omega) ?_
   ·simp(maxSteps:=1000000)(disch:=omega)only[push_cast,hal,Int.natCast_zero,List.take_zero,Cnd.levs,simprocAttr]
   rintro i a T hi ⟨rfl,hal,h1,h3,h4⟩
   rcases Yf hi with hlt |rfl
   case inr=>
    rw[Zs]at h3
    simp(maxSteps:=1000000)(disch:=omega)only[push_cast,hal,h1,h3,h4,hel,Int.lt_irrefl,wrap_ok,Tryz.f153,↓WX,simprocAttr]
   obtain⟨x,hx⟩:∃x,l[i]?=some x:=⟨l[i],by simp⟩
   have hltc:(i:Int)<l.length:=by omega
   have hb:=Cnd.bulk_get hx
   have cx:=levels_c m n x (by omega) (by omega) (by omega)
   have hg:=Cnd.encs_get hx
   have ht:=Cnd.levs_take hx
   obtain⟨lv,hlv'⟩:∃v,v=x.lev:=⟨_,rfl⟩
   rw[<-hlv']at cx ht
   have hlb:=Cnd.lev_le x
   rw[<-hlv']at hlb
   cases x with |mk k' l' lx' u' v' pf' pt' pd' t' tx'=>?_
   simp only[Cnd.enc]at cx hg
   have hmax:((max (Cnd.levs (l.take i)) lv:Nat):Int)=max ((Cnd.levs (l.take i):Nat):Int) (lv:Int):=by omega
   simp(maxSteps:=1000000)(disch:=omega)only[push_cast,hal,h1,h3,h4,hel,hltc,hlt,hg,cx,ht,hmax,wrap_ok,Int.natCast_add,Int.natCast_one,↓WX,simprocAttr]
   split <;> omega
  obtain⟨d,T,ho,rfl⟩:=this
  intro st S
  rw[show (Cnd.mk k l lx u v pf pt pd t tx).lev=Cnd.levs l+1 by rw[Cnd.lev]]
  exact callD_pure rfl (by rw[pureL_cons,D.pure,hp];rfl) ho rfl
theorem Size_c:∀(m:Nat) (n:Nat) (c:Cnd),bulkL c.enc<=m->m<=1048576->2000000+m<=n->∀st S,callD E (dcall E n) st S 154 [.agg c.enc]=some (.int .i64 c.siz,S)
 |0,n,.mk k l lx u v pf pt pd t tx,h,_,_=>by simp only[Cnd.enc,bulkL,bulkD]at h;omega
 |m+1,n,.mk k l lx u v pf pt pd t tx,h,hm,hn=>by
  obtain⟨n,rfl⟩:∃n',n=n'+1:=⟨n-1,by omega⟩
  have hc:(Cnd.mk k l lx u v pf pt pd t tx).enc=[.int .i64 k,.sl 8 (Cnd.encs l) lx,.int .i64 u,.int .i64 v,.int .i64 pf,.int .i64 pt,.int .i64 pd,.sl 1 (t.map Cnd.encT) tx]:=by rw[Cnd.enc]
  have hp:=Cnd.pure (.mk k l lx u v pf pt pd t tx)
  rw[hc]at h hp ⊢
  simp only[bulkL,bulkD]at h
  have hl:=Cnd.len_le l
  have hlv:=Cnd.sizs_le l
  have hel:=Cnd.encs_len l
  have:WO (dcall E (n+1) 154 [.agg [.int .i64 k,.sl 8 (Cnd.encs l) lx,.int .i64 u,.int .i64 v,.int .i64 pf,.int .i64 pt,.int .i64 pd,.sl 1 (t.map Cnd.encT) tx]] []) λd T=>d=.int .i64 ((Cnd.sizs l+1:Nat):Int):=by
   refine wo_dcall Tryz.func154 rfl (by decide) rfl 21 rfl (λa hal ha=>?_)
   have h0:a[0]?=some _:=ha 0 (by simp)
   clear ha
   simp only[push_cast,h0,↓WX,simprocAttr]
   refine wl_loop (λi a T=>T=[Ob.row 8 [[.int .i64 k,.sl 8 (Cnd.encs l) lx,.int .i64 u,.int .i64 v,.int .i64 pf,.int .i64 pt,.int .i64 pd,.sl 1 (t.map Cnd.encT) tx]]]/\a.length=21/\a[1]?=some (.loc 0 0 0)/\a[3]?=some (.int .i64 ((Cnd.sizs (l.take i)+1:Nat):Int))/\a[4]?=some (.int .i64 i)) l.length ?_ (by omega) ?_
   ·simp only[push_cast,hal,List.take_zero,Cnd.sizs,simprocAttr,WY]
   rintro i a T hi ⟨rfl,hal,h1,h3,h4⟩
   rcases Yf hi with hlt |rfl
   case inr=>
    rw[Zs]at h3
    simp only[push_cast,hal,h1,h3,h4,hel,Tryz.f154,↓WX,simprocAttr,WY]
   obtain⟨x,hx⟩:∃x,l[i]?=some x:=⟨l[i],by simp⟩
   have hltc:(i:Int)<l.length:=by omega
   have hb:=Cnd.bulk_get hx
   have cx:=Size_c m n x (by omega) (by omega) (by omega)
   have hg:=Cnd.encs_get hx
   have ht:=Cnd.sizs_take hx
   obtain⟨lv,hlv'⟩:∃v,v=x.siz:=⟨_,rfl⟩
   rw[<-hlv']at cx ht
   have hlb:=Cnd.siz_le x
   rw[<-hlv']at hlb
   cases x with |mk k' l' lx' u' v' pf' pt' pd' t' tx'=>?_
   simp only[Cnd.enc]at cx hg
   have hbt:=Cnd.bulk_take l i
   have hst:=Cnd.sizs_le (l.take i)
   have hbt2:=Cnd.bulk_take l (i+1)
   have hst2:=Cnd.sizs_le (l.take (i+1))
   rw[ht]at hst2
   have hw:IntKind.i64.wrap (((Cnd.sizs (l.take i):Nat):Int)+1+(lv:Int))=((Cnd.sizs (l.take i):Nat):Int)+1+lv:=wrap_ok (by omega) (by omega)
   simp(maxSteps:=1000000)(disch:=omega)only[push_cast,hal,h1,h3,h4,hel,hltc,hlt,hg,cx,ht,hw,wrap_ok,Int.natCast_add,Int.natCast_one,↓WX,simprocAttr]
   omega
  obtain⟨d,T,ho,rfl⟩:=this
  intro st S
  rw[show (Cnd.mk k l lx u v pf pt pd t tx).siz=Cnd.sizs l+1 by rw[Cnd.siz]]
  exact callD_pure rfl (by rw[pureL_cons,D.pure,hp];rfl) ho rfl
end Go.Proofs.YtaklebjoenophaaGreat.Dm
