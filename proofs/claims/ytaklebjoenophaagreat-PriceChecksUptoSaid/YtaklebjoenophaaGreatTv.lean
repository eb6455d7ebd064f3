/-
  What a datum of a plain type is, type by type.
  The plain law of the reference's distances: each change brings the search nearer to its end.
  The reference's violations of the percents of a rule.
  The reference's violations of a routing.
  The reference's violations of taxes.
-/
import Derived.Test.YtaklebjoenophaaGreatDmK
import Derived.Test.YtaklebjoenophaaGreatPoG
import Derived.Test.YtaklebjoenophaaGreatCdB
set_option maxHeartbeats 64000000
set_option maxRecDepth 100000
set_option linter.unusedSimpArgs false
set_option linter.unusedVariables false
namespace Go.Proofs.YtaklebjoenophaaGreat.Dm
open Go Go.RowKit
section
variable {P : Program} {t e : TypeId} {k : IntKind} {d : D} {cs : List D}
theorem TC.toInt (ht:P.underlying t=some (.int k)) (h:TC P t cs):∃n,cs=[.int k n]/\(Lit.int k n).wf=true:=by
 cases h with
 |int h hw=>rw[ht]at h;cases h;exact⟨_,rfl,hw⟩
 |str h=>rw[ht]at h;cases h
 |bool h=>rw[ht]at h;cases h
 |nils h=>rw[ht]at h;cases h
 |sl h=>rw[ht]at h;cases h
 |struct h=>rw[ht]at h;cases h
 |array h=>rw[ht]at h;cases h
theorem TC.toStr (ht:P.underlying t=some .string) (h:TC P t cs):∃s:ByteArray,cs=[.str s]/\s.size<=maxLen:=by
 cases h with
 |int h hw=>rw[ht]at h;cases h
 |str h hs=>exact⟨_,rfl,hs⟩
 |bool h=>rw[ht]at h;cases h
 |nils h=>rw[ht]at h;cases h
 |sl h=>rw[ht]at h;cases h
 |struct h=>rw[ht]at h;cases h
 |array h=>rw[ht]at h;cases h
theorem TC.toBool (ht:P.underlying t=some .bool) (h:TC P t cs):∃b,cs=[.bool b]:=by
 cases h with
 |int h hw=>rw[ht]at h;cases h
 |str h hs=>rw[ht]at h;cases h
 |bool h b=>exact⟨_,rfl⟩
 |nils h=>rw[ht]at h;cases h
 |sl h=>rw[ht]at h;cases h
 |struct h=>rw[ht]at h;cases h
 |array h=>rw[ht]at h;cases h
theorem TC.toSlice (ht:P.underlying t=some (.slice e)) (h:TC P t cs):cs=[.nils]∨∃es x,cs=[.sl (P.cellsOf e) es x]/\es.length<=maxLen/\∀(j:Nat) (c:List D),es[j]?=some c->TC P e c:=by
 cases h with
 |int h hw=>rw[ht]at h;cases h
 |str h hs=>rw[ht]at h;cases h
 |bool h=>rw[ht]at h;cases h
 |nils h=>exact .inl rfl
 |sl h hl hes=>rw[ht]at h;cases h;exact .inr ⟨_,_,rfl,hl,hes⟩
 |struct h=>rw[ht]at h;cases h
 |array h=>rw[ht]at h;cases h
theorem TC.toStruct {fs:Array Field} (ht:P.underlying t=some (.struct fs)) (h:TC P t cs):cs.length=P.cellsOf t/\∀f∈fs.toList,TC P f.type ((cs.drop f.offset).take (P.cellsOf f.type)):=by
 cases h with
 |int h hw=>rw[ht]at h;cases h
 |str h hs=>rw[ht]at h;cases h
 |bool h=>rw[ht]at h;cases h
 |nils h=>rw[ht]at h;cases h
 |sl h=>rw[ht]at h;cases h
 |struct h hl hf=>rw[ht]at h;cases h;exact⟨hl,hf⟩
 |array h=>rw[ht]at h;cases h
theorem TC.toArray {n:Nat} (ht:P.underlying t=some (.array n e)) (h:TC P t cs):cs.length=P.cellsOf t/\∀i,i<n->TC P e ((cs.drop (i*P.cellsOf e)).take (P.cellsOf e)):=by
 cases h with
 |int h hw=>rw[ht]at h;cases h
 |str h hs=>rw[ht]at h;cases h
 |bool h=>rw[ht]at h;cases h
 |nils h=>rw[ht]at h;cases h
 |sl h=>rw[ht]at h;cases h
 |struct h=>rw[ht]at h;cases h
 |array h hl hf=>rw[ht]at h;cases h;exact⟨hl,hf⟩
theorem TV.one (hg:aggT P t=some false) (h:TV P t d):TC P t [d]:=by
 rcases h with ⟨h,-⟩ | ⟨-,h⟩
 ·rw[hg]at h;cases h
 ·exact h
theorem TV.agg (hg:aggT P t=some true) (h:TV P t d):∃ds,d=.agg ds/\TC P t ds:=by
 rcases h with ⟨-,h⟩ | ⟨h,-⟩
 ·exact h
 ·rw[hg]at h;cases h
theorem TV.toInt (ht:P.underlying t=some (.int k)) (h:TV P t d):∃n,d=.int k n/\(Lit.int k n).wf=true:=by
 obtain⟨n,hn,hw⟩:=(h.one (by rw[aggT,ht];rfl)).toInt ht
 exact⟨n,by simpa using hn,hw⟩
theorem TV.toStr (ht:P.underlying t=some .string) (h:TV P t d):∃s:ByteArray,d=.str s/\s.size<=maxLen:=by
 obtain⟨n,hn,hw⟩:=(h.one (by rw[aggT,ht];rfl)).toStr ht
 exact⟨n,by simpa using hn,hw⟩
theorem TV.toBool (ht:P.underlying t=some .bool) (h:TV P t d):∃b,d=.bool b:=by
 obtain⟨n,hn⟩:=(h.one (by rw[aggT,ht];rfl)).toBool ht
 exact⟨n,by simpa using hn⟩
theorem TV.toSlice (ht:P.underlying t=some (.slice e)) (h:TV P t d):d=.nils∨∃es x,d=.sl (P.cellsOf e) es x/\es.length<=maxLen/\∀(j:Nat) (c:List D),es[j]?=some c->TC P e c:=by
 rcases (h.one (by rw[aggT,ht];rfl)).toSlice ht with h | ⟨es,x,h,hl,hes⟩
 ·exact .inl (by simpa using h)
 ·exact .inr ⟨es,x,by simpa using h,hl,hes⟩
theorem TV.toStruct {fs:Array Field} (ht:P.underlying t=some (.struct fs)) (h:TV P t d):∃cs,d=.agg cs/\cs.length=P.cellsOf t/\∀f∈fs.toList,TC P f.type ((cs.drop f.offset).take (P.cellsOf f.type)):=by
 obtain⟨ds,hd,hc⟩:=h.agg (by rw[aggT,ht];rfl)
 exact⟨ds,hd,hc.toStruct ht⟩
theorem TVs.inv {ts:List TypeId} {xs:List D} (h:TVs P (t::ts) xs):∃d ds,xs=d::ds/\TV P t d/\TVs P ts ds:=by
 cases h with
 |cons h hs=>exact⟨_,_,rfl,h,hs⟩
theorem TVs.inv0 {xs:List D} (h:TVs P [] xs):xs=[]:=by
 cases h;rfl
end
open Gw
theorem nodup_len {α:Type} [DecidableEq α]:∀ {l m:List α},l.Nodup->(∀x∈l,x∈m)->l.length<=m.length
 | [],_,_,_=>Vt _
 |x::xs,m,h,g=>by
  have hx:=g x Uo
  rw[List.nodup_cons]at h
  have:=nodup_len (l:=xs) (m:=m.erase x) h.2 (λy hy=>(List.mem_erase_of_ne (λe=>h.1 (by rw[<-e];exact hy))).2 (g y (Um _ hy)))
  rw[List.length_erase_of_mem hx]at this
  have:0<m.length:=List.length_pos_of_mem hx
  rw[Uu]
  omega
def sumV:List (ByteArray×Int)->Nat
 | []=>0
 |p::ps=>p.2.toNat+sumV ps
theorem sumV_append (l m:List (ByteArray×Int)):sumV (l++m)=sumV l+sumV m:=by
 induction l with
 |nil=>rw[Vr];exact (Nat.zero_add _).symm
 |cons p ps ih=>
  show p.2.toNat+sumV (ps++m)=(p.2.toNat+sumV ps)+sumV m
  rw[ih]
  omega
theorem sumV_set:∀ {l:List (ByteArray×Int)} {i:Nat} {x:ByteArray×Int} (y:ByteArray×Int),l[i]?=some x->sumV (l.set i y)+x.2.toNat=sumV l+y.2.toNat
 | [],_,_,_,h=>by cases h
 |p::ps,0,x,y,h=>by
  obtain rfl:p=x:=by simpa using h
  rw[List.set_cons_zero]
  unfold sumV
  omega
 |p::ps,i+1,x,y,h=>by
  have:=sumV_set (l:=ps) (i:=i) y (by simpa using h)
  rw[List.set_cons_succ]
  unfold sumV
  omega
theorem reF_cases (s:ByteArray) (v:Int):∀l:List (ByteArray×Int),(s ∉ l.map (·.1)/\reF s v l=(l++[(s,v)],true))∨∃(i:Nat) (x:ByteArray×Int),l[i]?=some x/\x.1=s/\((x.2<=v/\reF s v l=(l,false))∨(v<x.2/\reF s v l=(l.set i (s,v),true)))
 | []=>.inl ⟨λh=>(by cases h),rfl⟩
 |p::ps=>by
  unfold reF
  by_cases c:p.1=s
  ·right
   refine⟨0,p,rfl,c,?_⟩
   rw[if_pos c]
   by_cases c2:p.2<=v
   ·exact .inl ⟨c2,by rw[if_pos c2]⟩
   ·exact .inr ⟨by omega,by rw[if_neg c2,List.set_cons_zero,c]⟩
  ·rw[if_neg c]
   rcases reF_cases s v ps with ⟨h1,h2⟩ | ⟨i,x,h1,h2,h3⟩
   ·left
    refine⟨λh=>?_,by rw[h2];rfl⟩
    rw[Uy,List.mem_cons]at h
    rcases h with h |h
    ·exact c h.symm
    ·exact h1 h
   ·right
    refine⟨i+1,x,by simpa using h1,h2,?_⟩
    rcases h3 with ⟨g1,g2⟩ | ⟨g1,g2⟩
    ·exact .inl ⟨g1,by rw[g2]⟩
    ·exact .inr ⟨g1,by rw[g2,List.set_cons_succ]⟩
structure Gd (ns:List ByteArray) (l:List (ByteArray×Int)):Prop where
 nd:(l.map (·.1)).Nodup
 sub:∀p∈l,p.1∈ns
 lo:∀p∈l,0<=p.2
 hi:∀p∈l,p.2+20000<=20000*(l.length:Int)
def muF (ns:List ByteArray) (l:List (ByteArray×Int)):Nat:=sumV l+(ns.length-l.length)*900000
theorem Gd.len {ns:List ByteArray} {l:List (ByteArray×Int)} (h:Gd ns l):l.length<=ns.length:=by
 have:=nodup_len h.nd (m:=ns) (λx hx=>by obtain⟨p,hp,rfl⟩:=Vq.1 hx;exact h.sub p hp)
 rwa [Uq]at this
theorem reF_good {ns:List ByteArray} {l:List (ByteArray×Int)} {s:ByteArray} {v:Int} (h:Gd ns l) (hn:ns.length<=41) (hs:s∈ns) (h0:0<=v) (h1:v<=20000*(l.length:Int)):
  Gd ns (reF s v l).1/\muF ns (reF s v l).1<=muF ns l/\((reF s v l).2=true->muF ns (reF s v l).1+1<=muF ns l):=by
 have hlen:=h.len
 rcases reF_cases s v l with ⟨g1,g2⟩ | ⟨i,x,g1,g2,⟨g3,g4⟩ | ⟨g3,g4⟩⟩
 ·rw[g2]
  have hnd:((l++[(s,v)]).map (·.1)).Nodup:=by
   rw[List.map_append,List.nodup_append]
   exact⟨h.nd,by simp,λa ha b hb e=>by
    have:b=s:=by simpa using hb
    exact g1 (by rw[<-this,<-e];exact ha)⟩
  have hg:Gd ns (l++[(s,v)]):=⟨hnd,λp hp=>by
    rcases List.mem_append.1 hp with hp |hp
    ·exact h.sub p hp
    ·obtain rfl:p=(s,v):=by simpa using hp
     exact hs,λp hp=>by
    rcases List.mem_append.1 hp with hp |hp
    ·exact h.lo p hp
    ·obtain rfl:p=(s,v):=by simpa using hp
     exact h0,λp hp=>by
    rw[Ku,List.length_singleton]
    rcases List.mem_append.1 hp with hp |hp
    ·have:=h.hi p hp
     omega
    ·obtain rfl:p=(s,v):=by simpa using hp
     dsimp only
     omega⟩
  have hl2:=hg.len
  rw[Ku,List.length_singleton]at hl2
  have hmu:muF ns (l++[(s,v)])+1<=muF ns l:=by
   unfold muF
   rw[sumV_append,Ku,List.length_singleton]
   have e0:sumV [(s,v)]=v.toNat:=by simp[sumV]
   have hv:v.toNat<=820000:=by omega
   obtain⟨t,ht⟩:∃t,ns.length=l.length+1+t:=⟨ns.length-(l.length+1),by omega⟩
   rw[e0,show ns.length-(l.length+1)=t by omega,show ns.length-l.length=t+1 by omega]
   omega
  exact⟨hg,Nat.le_of_succ_le hmu,λ_=>hmu⟩
 ·rw[g4]
  exact⟨h,Uk _,λe=>by cases e⟩
 ·rw[g4]
  have hx:=Kx g1
  have hm:∀p∈l.set i (s,v),p∈l∨p=(s,v):=λp hp=>List.mem_or_eq_of_mem_set hp
  have hk:(l.set i (s,v)).map (·.1)=l.map (·.1):=by
   rw[List.map_set]
   apply List.ext_getElem?
   intro j
   by_cases e:i=j
   ·subst e
    have hi':i<(l.map (·.1)).length:=by
     rw[Uq]
     exact (Kr.1 g1).1
    rw[Uf hi',Vd,g1,Vm,g2]
   ·rw[Kt e]
  have hsum:=sumV_set (s,v) g1
  have hx0:=h.lo x hx
  refine⟨⟨by rw[hk];exact h.nd,λp hp=>?_,λp hp=>?_,λp hp=>?_⟩,?_,λ_=>?_⟩
  ·rcases hm p hp with hp |rfl
   ·exact h.sub p hp
   ·exact hs
  ·rcases hm p hp with hp |rfl
   ·exact h.lo p hp
   ·exact h0
  ·rw[Ux]
   rcases hm p hp with hp |rfl
   ·exact h.hi p hp
   ·have:=h.hi x hx
    dsimp only
    omega
  ·show muF ns (l.set i (s,v))<=muF ns l
   unfold muF
   rw[Ux]
   dsimp only at hsum
   omega
  ·show muF ns (l.set i (s,v))+1<=muF ns l
   unfold muF
   rw[Ux]
   dsimp only at hsum
   omega
theorem rchF_hi {ns:List ByteArray} {l:List (ByteArray×Int)} {s:ByteArray} (h:Gd ns l) (h0:0<=rchF s l):rchF s l+20000<=20000*(l.length:Int):=by
 have:∀m:List (ByteArray×Int),(∀p∈m,p.2+20000<=20000*(l.length:Int))->0<=rchF s m->rchF s m+20000<=20000*(l.length:Int):=by
  intro m
  induction m with
  |nil=>intro _ h;unfold rchF at h;omega
  |cons p ps ih=>
   intro g k
   unfold rchF at k ⊢
   split at k
   ·rename_i c
    rw[if_pos c]
    exact g p Uo
   ·rename_i c
    rw[if_neg c]
    exact ih (λq hq=>g q (Um _ hq)) k
 exact this l h.hi h0
abbrev encPc (p:ByteArray×Int):List D:=[.str p.1,.int .i64 p.2]
theorem encPc_pure (l:List (ByteArray×Int)):Zc (l.map encPc)=true:=by
 induction l with
 |nil=>rfl
 |cons f fs ih=>rw[Uy,Zw,ih];rfl
def percT:ByteArray:=ByteArray.mk #[112,101,114,99,101,110,116,32]
section
variable {n : Nat}
theorem percents21_d {l:List (ByteArray×Int)} {lx:Bool} (hl:l.length<=1048576) (hz:∀p∈l,p.1.size<=1048576) (hn:1048700<=n):
  WO (Yb E (n+1) 110 [.sl 2 (l.map encPc) lx] []) λd T=>∃fs,GL 2 encF T d fs/\fs.length<=3*l.length/\SZ (∀p∈l,0<=p.2/\p.2<=1000) fs 30:=by
 obtain⟨P,hP0,hPs,hPl⟩:=takeP l λp=>0<=p.2/\p.2<=1000
 refine Ye Tryz.func110 rfl (by decide) rfl 74 rfl (λa hal ha=>?_)
 have h0:=aQ1 ha
 clear ha
 simp only[push_cast,↓WX,simprocAttr]
 refine Yk (λi a T=>FSP (P i) T a[3]? (3*i) 30/\a.length=74/\a[0]?=some (.sl 2 (l.map encPc) lx)/\a[4]?=some (.int .i64 i)) l.length ?_ (by omega) ?_
 ·simp only[push_cast,hal,h0,FSP,simprocAttr,WY]
  exact⟨_,_,rfl,GL.nil,Vt _,SZ.nil hP0⟩
 rintro i a T hi ⟨⟨d,fs,h3,hg,hfl,hfz⟩,hal,h0,h4⟩
 rcases Kw hi with hlt |rfl
 case inr=>
  simp only[push_cast,hal,h0,h3,h4,Tryz.f110,↓WX,simprocAttr,WY]
  exact⟨fs,hg,hfl,hfz.mono hPl⟩
 obtain⟨x,hx⟩:∃x,l[i]?=some x:=⟨l[i],by simp⟩
 have hltc:(i:Int)<l.length:=by omega
 obtain⟨q,hq,cq⟩:=Wb.rdecW (n:=n) (i:=i) (by omega) (by omega)
 have hsz:percT.size=8:=rfl
 have mq:=mx_of (a:=percT) (b:=q) (by omega)
 have hat:(percT++q).size<=30:=by rw[ba_len];omega
 unfold percT at mq
 refine Ya (λa V=>V=T/\gQ a 74 (a[4]?=some (.int .i64 i)) [(0,.sl 2 (l.map encPc) lx),(3,d)]) ?_ ?_
 ·simp only[push_cast,hal,h0,h3,h4,hltc,↓WX,simprocAttr]
 rintro a V ⟨rfl,hal,h0,h3,h4⟩
 rw[Zx,Yx]
 refine Ya (λa W=>W=V/\gQ a 74 (a[6]?=some (.bool false)) [(0,.sl 2 (l.map encPc) lx),(3,d),(4,.int .i64 i),(5,.str (percT++q))]) ?_ ?_
 ·unfold percT
  simp only[push_cast,Vn,hal,h0,h3,h4,cq,mq,↓WX,simprocAttr]
 rintro a W ⟨rfl,hal,h0,h3,h4,h5,h6⟩
 generalize percT++q=at0 at*
 refine Ya (λa V=>(V=W/\∃b,a[6]?=some (.bool b))/\gQ a 74 (a[5]?=some (.str at0)) [(0,.sl 2 (l.map encPc) lx),(3,d),(4,.int .i64 i)]) ?_ ?_
 ·simp only[push_cast,↓WX,simprocAttr]
  refine Yk (λk a V=>(V=W/\∃b,a[6]?=some (.bool b))/\a.length=74/\a[0]?=some (.sl 2 (l.map encPc) lx)/\a[3]?=some (d)/\a[4]?=some (.int .i64 i)/\a[5]?=some (.str at0)/\a[7]?=some (.int .i64 k)) i ?_ (by omega) ?_
  ·simp only[push_cast,hal,h0,h3,h4,h5,h6,simprocAttr,WY]
   exact⟨_,rfl⟩
  rintro k a V hk ⟨⟨rfl,b,h6⟩,hal,h0,h3,h4,h5,h7⟩
  rcases Kw hk with hkt |rfl
  case inr=>
   simp only[push_cast,hal,h0,h3,h4,h5,h6,h7,↓WX,simprocAttr,WY]
   exact⟨_,rfl⟩
  obtain⟨y,hy⟩:∃y,l[k]?=some y:=⟨l[k]'(by omega),by simp⟩
  have hktc:(k:Int)<i:=by omega
  have hkl:k<l.length:=by omega
  cases b
  ·by_cases qe:y.1=x.1
   ·simp(disch:=omega)only[push_cast,hal,h0,h3,h4,h5,h6,h7,hktc,hkt,hx,hy,qe,Yo,Yf,↓WX,simprocAttr,WY]
    exact⟨_,rfl⟩
   ·simp(disch:=omega)only[push_cast,hal,h0,h3,h4,h5,h6,h7,hktc,hkt,hx,hy,qe,Yo,Yf,↓WX,simprocAttr,WY]
    exact⟨_,rfl⟩
  ·simp(disch:=omega)only[push_cast,hal,h0,h3,h4,h5,h6,h7,hktc,hkt,Yf,↓WX,simprocAttr,WY]
   exact⟨_,rfl⟩
 rintro a V ⟨⟨rfl,b,h6⟩,hal,h0,h3,h4,h5⟩
 obtain⟨bc,cc⟩:=rCode3_c (n:=n) (s:=x.1) (by have:=hz x (Kx hx);omega) (by have:=hz x (Kx hx);omega)
 refine Ya (λa V'=>FSP (P i) V' a[3]? (3*i+1) 30/\gQ a 74 (a[6]?=some (.bool b)) [(0,.sl 2 (l.map encPc) lx),(4,.int .i64 i),(5,.str at0)]) ?_ ?_
 ·obtain⟨d1,T1,fs1,p1,q1,g1,l1,z1,k1⟩:=app_sP hg (by omega) hfz (!bc) 5 at0 hat
  cases bc
  ·replace p1:=(p1 rfl).1
   simp only[push_cast,hal,h0,h3,h4,h5,h6,hx,cc,p1,dUn,FSP,↓WX,simprocAttr,WY]
   exact⟨_,_,rfl,g1,by omega,z1⟩
  ·simp only[push_cast,hal,h0,h3,h4,h5,h6,hx,cc,dUn,FSP,↓WX,simprocAttr,WY]
   exact⟨_,_,rfl,hg,by omega,hfz⟩
 rintro a V' ⟨⟨d1,fs1,h3,g1,l1,z1⟩,hal,h0,h4,h5,h6⟩
 refine Ya (λa V'=>FSP (P i) V' a[3]? (3*i+2) 30/\gQ a 74 (a[5]?=some (.str at0)) [(0,.sl 2 (l.map encPc) lx),(4,.int .i64 i)]) ?_ ?_
 ·obtain⟨d2,T2,fs2,p2,q2,g2,l2,z2,k2⟩:=app_sP g1 (by omega) z1 b 6 at0 hat
  cases b
  ·simp only[push_cast,hal,h0,h3,h4,h5,h6,FSP,↓WX,simprocAttr]
   exact⟨_,_,rfl,g1,by omega,z1⟩
  ·replace p2:=(p2 rfl).1
   simp only[push_cast,hal,h0,h3,h4,h5,h6,p2,FSP,↓WX,simprocAttr]
   exact⟨_,_,rfl,g2,by omega,z2⟩
 rintro a V' ⟨⟨d2,fs2,h3,g2,l2,z2⟩,hal,h0,h4,h5⟩
 obtain⟨d3,T3,fs3,p3,q3,g3,l3,z3,k3⟩:=app_sP g2 (by omega) z2 true 2 at0 hat
 have w3:=(p3 rfl).2
 replace p3:=(p3 rfl).1
 by_cases c1:x.2<0
 ·simp(disch:=omega)only[push_cast,hal,h0,h3,h4,h5,hlt,hx,c1,p3,FSP,Yf,↓WX,simprocAttr,WY]
  exact⟨_,_,rfl,g3,by omega,w3.any⟩
 by_cases c2:1000<x.2
 ·simp(disch:=omega)only[push_cast,Vn,hal,h0,h3,h4,h5,hlt,hx,c1,c2,p3,FSP,Yf,↓WX,simprocAttr,WY]
  exact⟨_,_,rfl,g3,by omega,w3.any⟩
 simp(disch:=omega)only[push_cast,Vn,hal,h0,h3,h4,hlt,hx,c1,c2,FSP,Yf,↓WX,simprocAttr,WY]
 exact⟨_,_,rfl,g2,by omega,z2.mono λe=>hPs i x hx e ⟨by omega,by omega⟩⟩
theorem percents21_c {l:List (ByteArray×Int)} {lx:Bool} (hl:l.length<=1048576) (hz:∀p∈l,p.1.size<=1048576) (hn:1048701<=n):∃d,FRP (∀p∈l,0<=p.2/\p.2<=1000) d (3*l.length) 30/\∀st S,Yi E (Yb E n) st S 110 [.sl 2 (l.map encPc) lx]=some (d,S):=by
 obtain⟨m,rfl⟩:∃m,n=m+1:=⟨n-1,by omega⟩
 obtain⟨d,T,ho,fs,hg,h1,h2⟩:=percents21_d (n:=m) (lx:=lx) hl hz (by omega)
 obtain⟨d',f,hf⟩:=GL_fz hg
 exact⟨d',⟨fs,hf,h1,h2⟩,λst S=>Yd rfl (by simp[Yc,Yg,D.pure,encPc_pure]) ho f⟩
end
abbrev encLk (p:ByteArray×ByteArray):List D:=[.str p.1,.str p.2]
theorem encLk_pure (l:List (ByteArray×ByteArray)):Zc (l.map encLk)=true:=by
 induction l with
 |nil=>rfl
 |cons f fs ih=>rw[Uy,Zw,ih];rfl
def linkT:ByteArray:=ByteArray.mk #[108,105,110,107,32]
section
variable {n : Nat}
theorem Link22_c {l:List (ByteArray×ByteArray)} {lx:Bool} (hl:l.length<=1048576) (hn:1048580<=n) (s u:ByteArray):∃v:Int,∀st S,Yi E (Yb E n) st S 111 [.sl 2 (l.map encLk) lx,.str s,.str u]=some (.int .i64 v,S):=by
 obtain⟨m,rfl⟩:∃m,n=m+1:=⟨n-1,by omega⟩
 have:WO (Yb E (m+1) 111 [.sl 2 (l.map encLk) lx,.str s,.str u] []) λr T=>∃v:Int,r=.int .i64 v:=by
  refine Ye Tryz.func111 rfl (by decide) rfl 31 rfl (λa hal ha=>?_)
  obtain⟨h0,h1,h2⟩:=aQ3 ha
  clear ha
  simp only[push_cast,↓WX,simprocAttr]
  refine Yk (λi a T=>a.length=31/\a[0]?=some (.sl 2 (l.map encLk) lx)/\a[1]?=some (.str s)/\a[2]?=some (.str u)/\a[7]?=some (.int .i64 i)) l.length ?_ (by omega) ?_
  ·simp only[push_cast,hal,h0,h1,h2,simprocAttr,WY]
  rintro i a T hi ⟨hal,h0,h1,h2,h7⟩
  rcases Kw hi with hlt |rfl
  case inr=>
   simp only[push_cast,hal,h0,h7,Tryz.f111,↓WX,simprocAttr,WY]
   exact⟨_,rfl⟩
  obtain⟨x,hx⟩:∃x,l[i]?=some x:=⟨l[i],by simp⟩
  have hltc:(i:Int)<l.length:=by omega
  by_cases q:x.1=s
  ·by_cases q2:x.2=u
   ·simp only[push_cast,hal,h0,h1,h2,h7,hltc,hx,q,q2,Yo,Tryz.f111,↓WX,simprocAttr]
    exact⟨_,rfl⟩
   ·simp(disch:=omega)only[push_cast,hal,h0,h1,h2,h7,hltc,hlt,hx,q,q2,Yo,Yf,↓WX,simprocAttr,WY]
  ·simp(disch:=omega)only[push_cast,hal,h0,h1,h2,h7,hltc,hlt,hx,q,Yo,Yf,↓WX,simprocAttr,WY]
 obtain⟨_,T,ho,v,rfl⟩:=this
 exact⟨v,λst S=>Yd rfl (by simp[Yc,Yg,D.pure,encLk_pure]) ho rfl⟩
end
structure Tx where
 code:ByteArray
 kind:Int
 land:ByteArray
 amount:Int
 scope:Int
 transit:Int
 free:List ByteArray
 freex:Bool
def Tx.enc (x:Tx):List D:=[.str x.code,.int .i64 x.kind,.str x.land,.int .i64 x.amount,.int .i64 x.scope,.int .i64 x.transit,.sl 1 (x.free.map Cnd.encT) x.freex]
theorem Tx_pure (r:Tx):Yp r.enc=true:=by
 simp only[D.pure,Yc,Yg,Bool.and_self,Tx.enc,Cnd.encT_pure]
theorem Jq (l:List Tx):Zc (l.map Tx.enc)=true:=by
 induction l with
 |nil=>rfl
 |cons f fs ih=>rw[Uy,Zw,ih,Tx_pure];rfl
structure TxG (x:Tx):Prop where
 kind:1<=x.kind/\x.kind<=4
 scope:0<=x.scope/\x.scope<=2
 am:0<=x.amount/\x.amount<=1099511627776
 fa:x.kind=4->x.amount<=100000
def taxT:ByteArray:=ByteArray.mk #[116,97,120,32]
section
variable {n : Nat}
theorem rCodeK_c {s:ByteArray} (k:Int) (hn:s.size+6<n) (hz:s.size<=9223372036854775807):∃b,∀st S,Yi E (Yb E n) st S 105 [.str s,.int .i64 k,.int .i64 k]=some (.bool b,S):=by
 obtain⟨m,rfl⟩:∃m,n=m+1:=⟨n-1,by omega⟩
 exact⟨_,λst S=>Yd rfl rfl (Ke (ref_Code_d (by omega) hz)) rfl⟩
theorem most27_c (hn:1<=n) (k:Int):∃v:Int,(v<=1099511627776/\(k=4->v<=100000))/\∀st S,Yi E (Yb E n) st S 49 [.int .i64 k]=some (.int .i64 v,S):=by
 obtain⟨m,rfl⟩:∃m,n=m+1:=⟨n-1,by omega⟩
 have:WO (Yb E (m+1) 49 [.int .i64 k] []) λr T=>∃v:Int,r=.int .i64 v/\(v<=1099511627776/\(k=4->v<=100000)):=by
  refine Ye Tryz.func49 rfl (by decide) rfl 5 rfl (λa hal ha=>?_)
  have h0:=aQ1 ha
  clear ha
  obtain⟨K,hK⟩:∃K:Int->Prop,K=λv=>v<=1099511627776/\(k=4->v<=100000):=⟨_,rfl⟩
  rw[show (λ(r:D) (T:List Ob)=>∃v:Int,r=.int .i64 v/\(v<=1099511627776/\(k=4->v<=100000)))=λr T=>∃v:Int,r=.int .i64 v/\K v by rw[hK]]
  by_cases q:k=4
  ·simp only[push_cast,hal,h0,q,Tryz.f49,↓WX,simprocAttr]
   exact⟨_,rfl,by rw[hK];exact⟨by decide,λ_=>by decide⟩⟩
  ·simp only[push_cast,hal,h0,q,Tryz.f49,↓WX,simprocAttr]
   exact⟨_,rfl,by rw[hK];exact⟨by decide,λh=>absurd h q⟩⟩
 obtain⟨_,T,ho,v,rfl,hv⟩:=this
 exact⟨v,hv,λst S=>Yd rfl rfl ho rfl⟩
theorem named27_c (x:Tx) (z1:x.code.size<=1048576) (z2:x.land.size<=1048576) (z3:∀s∈x.free,s.size<=1048576) (z4:x.free.length<=1048576) (hn:1048700<=n):∃b,∀st S,Yi E (Yb E n) st S 48 [.agg x.enc]=some (.bool b,S):=by
 obtain⟨m,rfl⟩:∃m,n=m+1:=⟨n-1,by omega⟩
 obtain⟨b1,c1⟩:=rCodeK_c (n:=m) (s:=x.code) 2 (by omega) (by omega)
 have c2:=λst S=>rCountry_c (n:=m) (s:=x.land) (by omega) (by omega) st S
 generalize lettS x.land 2=b2 at*
 have hp:=Tx_pure x
 simp only[Tx.enc]at hp ⊢
 have:WO (Yb E (m+1) 48 [.agg [.str x.code,.int .i64 x.kind,.str x.land,.int .i64 x.amount,.int .i64 x.scope,.int .i64 x.transit,.sl 1 (x.free.map Cnd.encT) x.freex]] []) λr T=>∃b,r=.bool b:=by
  refine Ye Tryz.func48 rfl (by decide) rfl 28 rfl (λa hal ha=>?_)
  have h0:=aQ1 ha
  clear ha
  cases b1
  case false=>
   simp only[push_cast,hal,h0,c1,dUn,Tryz.f48,↓WX,simprocAttr,WY]
   exact⟨_,rfl⟩
  cases b2
  case false=>
   simp only[push_cast,hal,h0,c1,c2,dUn,Tryz.f48,↓WX,simprocAttr,WY]
   exact⟨_,rfl⟩
  simp only[push_cast,hal,h0,c1,c2,dUn,↓WX,simprocAttr,WY]
  refine Yk (λi a T=>T=[Ob.row 7 [[.str x.code,.int .i64 x.kind,.str x.land,.int .i64 x.amount,.int .i64 x.scope,.int .i64 x.transit,.sl 1 (x.free.map Cnd.encT) x.freex]]]/\a.length=28/\a[1]?=some (.loc 0 0 0)/\a[3]?=some (.int .i64 i)) x.free.length ?_ (by omega) ?_
  ·simp only[push_cast,hal,simprocAttr,WY]
  rintro i a T hi ⟨rfl,hal,h1,h3⟩
  rcases Kw hi with hlt |rfl
  case inr=>
   simp only[push_cast,hal,h1,h3,Tryz.f48,↓WX,simprocAttr,WY]
   exact⟨_,rfl⟩
  obtain⟨y,hy⟩:∃y,x.free[i]?=some y:=⟨x.free[i],by simp⟩
  have hltc:(i:Int)<x.free.length:=by omega
  have hys:=z3 y (Kx hy)
  obtain⟨b3,c3⟩:=rCodeK_c (n:=m) (s:=y) 3 (by omega) (by omega)
  cases b3
  ·simp only[push_cast,hal,h1,h3,hltc,hy,c3,dUn,Tryz.f48,↓WX,simprocAttr,WY]
   exact⟨_,rfl⟩
  ·simp(disch:=omega)only[push_cast,hal,h1,h3,hltc,hlt,hy,c3,dUn,Yf,↓WX,simprocAttr,WY]
 obtain⟨_,T,ho,b,rfl⟩:=this
 exact⟨b,λst S=>Yd rfl (by rw[Yc,D.pure,hp];rfl) ho rfl⟩
end
end Go.Proofs.YtaklebjoenophaaGreat.Dm
