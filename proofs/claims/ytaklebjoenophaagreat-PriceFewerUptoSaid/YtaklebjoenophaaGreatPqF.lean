/-
  Prices compared by the reference, however their lists lie.
  Whether a price is valid: the reference, exactly (in terms of what the fares of its components come to).
  Distances: what is the length of the shortest way. The plain law of a search that follows distances until nothing changes.
  What a rule allows: the program, in terms of its condition.
  Lists of conditions, numbers and texts in which something holds: the program's library, exactly. Days of a period: the program, exactly.
  The bound of the second form, as the bulk of data.
-/
import Derived.Test.YtaklebjoenophaaGreatCfG
import Derived.Test.YtaklebjoenophaaGreatZg
import Derived.Test.YtaklebjoenophaaGreatPoH
import Derived.Test.YtaklebjoenophaaGreatPrG
import Derived.Test.YtaklebjoenophaaGreatRows
import Derived.Test.YtaklebjoenophaaGreatTod
set_option maxHeartbeats 64000000
set_option maxRecDepth 100000
set_option linter.unusedSimpArgs false
set_option linter.unusedVariables false
namespace Go.Proofs.YtaklebjoenophaaGreat.Dm
open Go Gw
section
variable {n : Nat}
end
def vfE (why:Prt->Int) (amt:Prt->Int×Int) (x:Prt):Int:=if why x=0 then if (amt x).2=0/\(amt x).1=x.am then 0 else 36 else why x
def wantF (z:Int×List (ByteArray×Int)×Int) (ps:List (Int×Int)) (l:List Prt):Quo:=⟨l,false,ps,false,z.2.1,false,z.1,z.2.2⟩
section
variable {n : Nat}
end
def Dst.ok (x:Dst):Prop:=1<=x.mi/\x.mi<=20000
instance (x:Dst):Decidable x.ok:=inferInstanceAs (Decidable (_/\_))
inductive Wk (ds:List Dst) (c:ByteArray):ByteArray->Int->Prop
 |nil:Wk ds c c 0
 |fr {x:Dst} {d:Int}:x∈ds->x.ok->Wk ds c x.fr d->Wk ds c x.to (d+x.mi)
 |to {x:Dst} {d:Int}:x∈ds->x.ok->Wk ds c x.to d->Wk ds c x.fr (d+x.mi)
def MilR (ds:List Dst) (c g:ByteArray) (q e:Int):Prop:=(e=0/\Wk ds c g q/\∀d,Wk ds c g d->q<=d)∨(e=7/\q=0/\∀d,¬Wk ds c g d)
theorem MilR.uniq {ds:List Dst} {c g:ByteArray} {q e q' e':Int} (h:MilR ds c g q e) (h':MilR ds c g q' e'):q=q'/\e=e':=by
 rcases h with ⟨h1,h2,h3⟩ | ⟨h1,h2,h3⟩ <;> rcases h' with ⟨g1,g2,g3⟩ | ⟨g1,g2,g3⟩
 ·have:=h3 _ g2
  have:=g3 _ h2
  exact⟨by omega,by omega⟩
 ·exact (g3 _ h2).elim
 ·exact (h3 _ g2).elim
 ·exact⟨by omega,by omega⟩
def rlxF (x y:ByteArray) (v:Int) (l:List (ByteArray×Int)):List (ByteArray×Int)×Bool:=if rchF x l<0 then (l,false) else reF y (rchF x l+v) l
def ClsD (l:List (ByteArray×Int)) (x:Dst):Prop:=(0<=rchF x.fr l->0<=rchF x.to l/\rchF x.to l<=rchF x.fr l+x.mi)/\(0<=rchF x.to l->0<=rchF x.fr l/\rchF x.fr l<=rchF x.to l+x.mi)
structure Snd (ds:List Dst) (c:ByteArray) (l:List (ByteArray×Int)):Prop where
 zero:rchF c l=0
 ways:∀p∈l,Wk ds c p.1 p.2
theorem rchF_mem {s:ByteArray}:∀ {l:List (ByteArray×Int)},0<=rchF s l->(s,rchF s l)∈l
 | [],h=>by unfold rchF at h;omega
 |p::ps,h=>by
  unfold rchF at h ⊢
  split
  ·rename_i c
   rw[if_pos c]at h
   rw[<-c]
   exact Yx ..
  ·rename_i c
   rw[if_neg c]at h
   exact Yv _ (rchF_mem h)
def rmn (v r:Int):Int:=if r<0 then v else if r<=v then r else v
theorem rmn_no {v r:Int} (h:r<0):rmn v r=v:=if_pos h
theorem rmn_lo {v r:Int} (h:0<=r) (g:r<=v):rmn v r=r:=by unfold rmn;rw[if_neg (by omega),if_pos g]
theorem rmn_hi {v r:Int} (h:0<=r) (g:¬r<=v):rmn v r=v:=by unfold rmn;rw[if_neg (by omega),if_neg g]
theorem rch_nil (s:ByteArray):rchF s []= -1:=rfl
theorem rch_cons (s:ByteArray) (p:ByteArray×Int) (ps:List (ByteArray×Int)):rchF s (p::ps)=if p.1=s then p.2 else rchF s ps:=rfl
theorem reF_rch (s t:ByteArray) (v:Int):∀l:List (ByteArray×Int),(∀p∈l,0<=p.2)->rchF t (reF s v l).1=if t=s then rmn v (rchF s l) else rchF t l
 | [],_=>by
  unfold reF
  dsimp only
  rw[rch_nil,rch_cons,rch_nil]
  by_cases c:t=s
  ·rw[if_pos c,if_pos c.symm,rmn_no (by omega)]
  ·rw[if_neg c,if_neg (λe=>c e.symm)]
 |p::ps,h=>by
  have ih:=reF_rch s t v ps λq hq=>h q (Yv _ hq)
  have hp:=h p (Yx ..)
  unfold reF
  by_cases c:p.1=s
  ·rw[if_pos c]
   by_cases c2:p.2<=v
   ·rw[if_pos c2]
    dsimp only
    by_cases c3:t=s
    ·rw[if_pos c3,c3,rch_cons,if_pos c,rmn_lo hp c2]
    ·rw[if_neg c3]
   ·rw[if_neg c2]
    dsimp only
    rw[rch_cons]
    dsimp only
    by_cases c3:t=s
    ·rw[if_pos c3,c3,if_pos c,rch_cons,if_pos c,rmn_hi hp c2]
    ·rw[if_neg c3,if_neg (λe=>c3 (e.symm.trans c)),rch_cons,if_neg (λe=>c3 (e.symm.trans c))]
  ·rw[if_neg c]
   dsimp only
   rw[rch_cons,ih]
   by_cases c3:p.1=t
   ·rw[if_pos c3,if_neg (λe=>c (c3.trans e)),rch_cons,if_pos c3]
   ·rw[if_neg c3,rch_cons t,if_neg c3]
    by_cases c4:t=s
    ·rw[if_pos c4,if_pos c4,rch_cons,if_neg c]
    ·rw[if_neg c4,if_neg c4]
theorem reF_false {s:ByteArray} {v:Int}:∀ {l:List (ByteArray×Int)},(∀p∈l,0<=p.2)->(reF s v l).2=false->(reF s v l).1=l/\0<=rchF s l/\rchF s l<=v
 | [],_,h=>by unfold reF at h;cases h
 |p::ps,hp,h=>by
  unfold reF at h ⊢
  simp only[rchF]
  by_cases c:p.1=s
  ·rw[if_pos c]at h ⊢
   by_cases c2:p.2<=v
   ·rw[if_pos c2,if_pos c]
    exact⟨rfl,hp p (Yx ..),c2⟩
   ·rw[if_neg c2]at h;cases h
  ·rw[if_neg c]at h ⊢
   obtain⟨h1,h2,h3⟩:=reF_false (l:=ps) (λq hq=>hp q (Yv _ hq)) h
   rw[if_neg c]
   exact⟨by rw[h1],h2,h3⟩
theorem reF_le {s:ByteArray} {v:Int}:∀ {l:List (ByteArray×Int)},0<=rchF s l->rchF s l<=v->reF s v l=(l,false)
 | [],h,_=>by unfold rchF at h;omega
 |p::ps,h,g=>by
  unfold rchF at h g
  unfold reF
  by_cases c:p.1=s
  ·rw[if_pos c]at h g
   rw[if_pos c,if_pos g]
  ·rw[if_neg c]at h g
   rw[if_neg c,reF_le h g]
theorem Snd.re {ds:List Dst} {c s:ByteArray} {l:List (ByteArray×Int)} {v:Int} (h:Snd ds c l) (hp:∀p∈l,0<=p.2) (hv:0<=v) (hw:Wk ds c s v):Snd ds c (reF s v l).1:=by
 refine⟨?_,λp hm=>?_⟩
 ·rw[reF_rch s c v l hp]
  by_cases e:c=s
  ·subst e
   rw[if_pos rfl,h.zero,rmn_lo (Int.le_refl _) hv]
  ·rw[if_neg e,h.zero]
 ·rcases reF_cases s v l with ⟨-,e⟩ | ⟨i,x,h1,h2,⟨-,e⟩ | ⟨-,e⟩⟩
  ·rw[e]at hm
   rcases List.mem_append.1 hm with hm |hm
   ·exact h.ways p hm
   ·obtain rfl:=List.mem_singleton.1 hm
    exact hw
  ·rw[e]at hm
   exact h.ways p hm
  ·rw[e]at hm
   rcases List.mem_or_eq_of_mem_set hm with hm |rfl
   ·exact h.ways p hm
   ·exact hw
theorem rlxF_good {ns:List ByteArray} {l:List (ByteArray×Int)} {x y:ByteArray} {v:Int} (h:Gd ns l) (hn:ns.length<=41) (hs:y∈ns) (h0:0<=v) (h1:v<=20000):
  Gd ns (rlxF x y v l).1/\muF ns (rlxF x y v l).1<=muF ns l/\((rlxF x y v l).2=true->muF ns (rlxF x y v l).1+1<=muF ns l):=by
 unfold rlxF
 by_cases c:rchF x l<0
 ·rw[if_pos c]
  exact⟨h,Yt _,λe=>by cases e⟩
 ·rw[if_neg c]
  have:=rchF_hi (s:=x) h (by omega)
  exact reF_good h hn hs (by omega) (by omega)
theorem Snd.rlx {ds:List Dst} {c:ByteArray} {l:List (ByteArray×Int)} {x:Dst} (h:Snd ds c l) (hp:∀p∈l,0<=p.2) (hx:x∈ds) (hk:x.ok):Snd ds c (rlxF x.fr x.to x.mi l).1/\Snd ds c (rlxF x.to x.fr x.mi l).1:=by
 have k1:=hk.1
 refine⟨?_,?_⟩
 ·unfold rlxF
  by_cases e:rchF x.fr l<0
  ·rw[if_pos e];exact h
  ·rw[if_neg e]
   have hv:0<=rchF x.fr l+x.mi:=by omega
   exact h.re (v:=rchF x.fr l+x.mi) hp hv (.fr hx hk (h.ways _ (rchF_mem (s:=x.fr) (l:=l) (by omega))))
 ·unfold rlxF
  by_cases e:rchF x.to l<0
  ·rw[if_pos e];exact h
  ·rw[if_neg e]
   have hv:0<=rchF x.to l+x.mi:=by omega
   exact h.re (v:=rchF x.to l+x.mi) hp hv (.to hx hk (h.ways _ (rchF_mem (s:=x.to) (l:=l) (by omega))))
theorem rlxF_false {x y:ByteArray} {v:Int} {l:List (ByteArray×Int)} (hp:∀p∈l,0<=p.2) (h:(rlxF x y v l).2=false):(rlxF x y v l).1=l/\(0<=rchF x l->0<=rchF y l/\rchF y l<=rchF x l+v):=by
 unfold rlxF at h ⊢
 by_cases e:rchF x l<0
 ·rw[if_pos e]
  exact⟨rfl,λh=>by omega⟩
 ·rw[if_neg e]at h ⊢
  obtain⟨h1,h2,h3⟩:=reF_false hp h
  exact⟨h1,λ_=>⟨h2,h3⟩⟩
theorem Snd.done {ds:List Dst} {c:ByteArray} {l:List (ByteArray×Int)} (h:Snd ds c l) (hp:∀p∈l,0<=p.2) (hc:∀x∈ds,x.ok->ClsD l x) (g:ByteArray):
  MilR ds c g (if rchF g l<0 then 0 else rchF g l) (if rchF g l<0 then 7 else 0):=by
 have key:∀t d,Wk ds c t d->0<=rchF t l/\rchF t l<=d:=λt d w=>by
  induction w with
  |nil=>rw[h.zero];omega
  |fr hx hk _ ih=>
   obtain⟨a,b⟩:=(hc _ hx hk).1 ih.1
   exact⟨a,by omega⟩
  |to hx hk _ ih=>
   obtain⟨a,b⟩:=(hc _ hx hk).2 ih.1
   exact⟨a,by omega⟩
 by_cases e:rchF g l<0
 ·rw[if_pos e,if_pos e]
  exact .inr ⟨rfl,rfl,λd w=>by have:=key g d w;omega⟩
 ·rw[if_neg e,if_neg e]
  exact .inl ⟨rfl,h.ways _ (rchF_mem (s:=g) (l:=l) (by omega)),λd w=>(key g d w).2⟩
def MilS (p:Plc) (s t:ByteArray) (q e:Int):Prop:=
 if cityS p s=ByteArray.mk #[]∨cityS p t=ByteArray.mk #[] then q=0/\e=14 else MilR p.dts (cityS p s) (cityS p t) q e
theorem MilS.uniq {p:Plc} {s t:ByteArray} {q e q' e':Int} (h:MilS p s t q e) (h':MilS p s t q' e'):q=q'/\e=e':=by
 unfold MilS at h h'
 split at h
 ·rename_i c
  rw[if_pos c]at h'
  exact⟨h.1.trans h'.1.symm,h.2.trans h'.2.symm⟩
 ·rename_i c
  rw[if_neg c]at h'
  exact h.uniq h'
theorem MilS.pos {p:Plc} {s t:ByteArray} {q e:Int} (h:MilS p s t q e):0<=q:=by
 have:∀c g d,Wk p.dts c g d->0<=d:=λc g d w=>by
  induction w with
  |nil=>exact Int.le_refl _
  |fr _ hk _ ih=>have:=hk.1;omega
  |to _ hk _ ih=>have:=hk.1;omega
 unfold MilS at h
 split at h
 ·omega
 ·rcases h with ⟨-,h,-⟩ | ⟨-,h,-⟩
  ·exact this _ _ _ h
  ·omega
section
variable {n : Nat}
theorem PAllows_x {y0:Int} {y1 y2 y3 y4 y5 y6 y7 y8 y9 y10 y11 y12 y13 y14:D} (ho:[y1,y2,y3,y4,y5,y6,y7,y8,y9,y10,y11,y12,y13,y14].all D.one=true) (hp:pureL [.agg [.int .i64 y0,y1,y2,y3,y4,y5,y6,y7,y8,y9,y10,y11,y12,y13,y14]]=true) (t:Trp) {x y z:D} (ht:t.Ok x y z) (hone:x.one=true/\y.one=true/\z.one=true) (b:Bool) (hb:∀st S,callD E (dcall E n) st S 119 [.agg [y1,y2,y3,y4,y5,y6,y7,y8],.agg (t.enc x y z)]=some (.bool b,S)):∀st S,callD E (dcall E (n+1)) st S 63 [.agg [.int .i64 y0,y1,y2,y3,y4,y5,y6,y7,y8,y9,y10,y11,y12,y13,y14],.agg (t.enc x y z)]=some (.int .i64 (if b then 0 else 20),S):=by
 simp only[List.all_cons,List.all_nil,Yj,Ye,D.one]at ho
 obtain⟨r1,r2,r3,r4,r5,r6,r7,r8,r9,r10,r11,r12,r13,r14⟩:=ho
 simp only[D.one]at hone
 obtain⟨o6,o7,o8⟩:=hone
 have htp:=ht.pure
 have:WO (dcall E (n+1) 63 [.agg [.int .i64 y0,y1,y2,y3,y4,y5,y6,y7,y8,y9,y10,y11,y12,y13,y14],.agg (t.enc x y z)] []) λr T=>r=.int .i64 (if b then 0 else 20):=by
  simp only[Trp.enc]at hb ⊢
  refine wo_dcall Tryz.func63 rfl (by decide) rfl 9 rfl (λa hal ha=>?_)
  have h0:a[0]?=some _:=ha 0 (by simp)
  have h1:a[1]?=some _:=ha 1 (by simp)
  clear ha
  cases b
  ·simp only[push_cast,decide_not,Yy,decide_eq_false_iff_not,bne_eq_false_iff_eq,beq_eq_false_iff_ne,Zx,ne_eq,hal,h0,h1,hb,o6,o7,o8,r1,r2,r3,r4,r5,r6,r7,r8,r9,r10,r11,r12,r13,r14,Yr,if_false,Tryz.f63,↓WX,simprocAttr,WY]
  ·simp only[push_cast,decide_not,Yy,decide_eq_false_iff_not,bne_eq_false_iff_eq,beq_eq_false_iff_ne,Zx,ne_eq,hal,h0,h1,hb,o6,o7,o8,r1,r2,r3,r4,r5,r6,r7,r8,r9,r10,r11,r12,r13,r14,if_true,Tryz.f63,↓WX,simprocAttr,WY]
 obtain⟨_,T,hr,rfl⟩:=this
 refine λst S=>callD_pure rfl ?_ hr rfl
 rw[pureL_cons,pureL_nil,Yj]at hp
 rw[pureL_cons,pureL_cons,pureL_nil,hp,Bool.true_and,Yj]
 simpa only[D.pure] using htp
end
section
variable {n : Nat}
theorem PIxC_d {F:Nat} {ys:List D} {p:Cnd->Bool} {l:List Cnd} {lx:Bool} {S:List Ob}  (hn:1048580<=n) (hl:l.length<=1048576)
  (hF:∀T,ExtS S T->∀q∈l,∃U,callD E (dcall E (n+1)) false T F (.agg (Cnd.enc q)::ys)=some (.bool (p q),U)/\ExtS T U):
  WO (dcall E (n+2) 207 [.sl 8 (Cnd.encs l) lx,.func F [] ys] S) λr T=>∃k:Int,r=.int .i64 k/\decide (0<=k)=l.any p/\ExtS S T:=by
 have hel:=Cnd.encs_len l
 obtain⟨b,hb⟩:∃b,b=l.any p:=⟨_,rfl⟩
 rw[<-hb]
 refine wo_dcall Tryz.func207 rfl (by decide) rfl 19 rfl (λa hal ha=>?_)
 have h0:a[0]?=some _:=ha 0 (by simp)
 have h1:a[1]?=some _:=ha 1 (by simp)
 clear ha
 simp only[push_cast,hal,h0,hel,↓WX,simprocAttr]
 refine wl_loop (λi a T=>(ExtS S T/\b=(l.drop i).any p)/\a.length=19/\a[0]?=some (.sl 8 (Cnd.encs l) lx)/\a[1]?=some (.func F [] ys)/\a[7]?=some (.int .i64 l.length)/\a[8]?=some (.int .i64 i)) l.length ?_ (by omega) ?_
 ·simp only[push_cast,hal,h0,h1,simprocAttr,WY]
  exact⟨ExtS.refl,hb⟩
 clear hb
 rintro i a T hi ⟨⟨hx,e⟩,hal,h0,h1,h7,h8⟩
 rcases Yf hi with hlt |rfl
 case inr=>
  rw[Zt,List.any_nil]at e
  subst e
  simp only[push_cast,decide_eq_false_iff_not,hal,h7,h8,Tryz.f207,↓WX,simprocAttr,WY]
  exact⟨_,rfl,by simp,hx⟩
 have hltc:(i:Int)<l.length:=by omega
 obtain⟨q,hq⟩:∃q,l[i]?=some q:=⟨l[i],by simp⟩
 rw[drop_at hq,List.any_cons]at e
 obtain⟨U,hU,hxU⟩:=hF T hx q (Yg hq)
 have hq':=Cnd.encs_get hq
 cases hp:p q
 ·rw[hp]at hU e
  rw[Bool.false_or]at e
  cases q with |mk k' l' lx' u' v' pf' pt' pd' t' tx'=>?_
  simp only[Cnd.enc]at hU hq'
  simp(maxSteps:=1000000)(disch:=omega)only[push_cast,hal,h0,h1,h7,h8,↓wo_callv,callV_func,hltc,hlt,hq',hU,wrap_ok,Zz,Ze,Int.natCast_add,Int.natCast_one,↓WX,simprocAttr]
  exact⟨hx.trans hxU,e⟩
 ·rw[hp]at hU e
  rw[Bool.true_or]at e
  subst e
  cases q with |mk k' l' lx' u' v' pf' pt' pd' t' tx'=>?_
  simp only[Cnd.enc]at hU hq'
  simp only[push_cast,Yy,hal,h0,h1,h7,h8,↓wo_callv,callV_func,hltc,hq',hU,Zz,Ze,Tryz.f207,↓WX,simprocAttr]
  exact⟨_,rfl,by simp,hx.trans hxU⟩
theorem PCtC_d {F:Nat} {ys:List D} {p:Cnd->Bool} {l:List Cnd} {lx:Bool} {S:List Ob}  (hn:1048580<=n) (hl:l.length<=1048576) (hys:pureL ys=false)
  (hF:∀T,ExtS S T->∀q∈l,∃U,callD E (dcall E (n+1)) false T F (.agg (Cnd.enc q)::ys)=some (.bool (p q),U)/\ExtS T U):
  ∃T,callD E (dcall E (n+3)) false S 171 [.sl 8 (Cnd.encs l) lx,.func F [] ys]=some (.bool (l.any p),T)/\ExtS S T:=by
 obtain⟨r,T,hT,k,rfl,hk,hx⟩:=PIxC_d (n:=n) (F:=F) (ys:=ys) (p:=p) (lx:=lx) hn hl hF
 have cx:callD E (dcall E (n+2)) false S 207 [.sl 8 (Cnd.encs l) lx,.func F [] ys]=some (.int .i64 k,T):=(callD_own rfl (by simp[pureL,D.pure,hys])).trans hT
 rw[<-hk]
 have:WO (dcall E (n+3) 171 [.sl 8 (Cnd.encs l) lx,.func F [] ys] S) λd T=>d=.bool (decide (0<=k))/\ExtS S T:=by
  refine wo_dcall Tryz.func171 rfl (by decide) rfl 9 rfl (λa hal ha=>?_)
  have h0:a[0]?=some _:=ha 0 (by simp)
  have h1:a[1]?=some _:=ha 1 (by simp)
  clear ha
  simp only[push_cast,hal,h0,h1,cx,Xe,Tryz.f171,↓WX,simprocAttr]
  exact hx
 obtain⟨r,T',hT',rfl,h⟩:=this
 exact⟨T',(callD_own rfl (by simp[pureL,D.pure,hys])).trans hT',h⟩
theorem PIxZ_d {F:Nat} {ys:List D} {p:Int->Bool} {d:D} {l:List Int} {S:List Ob} (h:FLs 1 encZ d l) (hn:1048580<=n) (hl:l.length<=1048576)
  (hF:∀T,ExtS S T->∀q∈l,∃U,callD E (dcall E (n+1)) false T F (.int .i64 q::ys)=some (.bool (p q),U)/\ExtS T U):
  WO (dcall E (n+2) 212 [d,.func F [] ys] S) λr T=>∃k:Int,r=.int .i64 k/\decide (0<=k)=l.any p/\ExtS S T:=by
 have hy:=λS=>fls_len (S:=S) Tryz.underlying70 h
 simp only[push_cast]at hy
 obtain⟨b,hb⟩:∃b,b=l.any p:=⟨_,rfl⟩
 rw[<-hb]
 refine wo_dcall Tryz.func212 rfl (by decide) rfl 19 rfl (λa hal ha=>?_)
 have h0:a[0]?=some _:=ha 0 (by simp)
 have h1:a[1]?=some _:=ha 1 (by simp)
 clear ha
 simp only[push_cast,hal,h0,hy,↓WX,simprocAttr]
 refine wl_loop (λi a T=>(ExtS S T/\b=(l.drop i).any p)/\a.length=19/\a[0]?=some (d)/\a[1]?=some (.func F [] ys)/\a[7]?=some (.int .i64 l.length)/\a[8]?=some (.int .i64 i)) l.length ?_ (by omega) ?_
 ·simp only[push_cast,hal,h0,h1,simprocAttr,WY]
  exact⟨ExtS.refl,hb⟩
 clear hb
 rintro i a T hi ⟨⟨hx,e⟩,hal,h0,h1,h7,h8⟩
 rcases Yf hi with hlt |rfl
 case inr=>
  rw[Zt,List.any_nil]at e
  subst e
  simp only[push_cast,decide_eq_false_iff_not,hal,h7,h8,Tryz.f212,↓WX,simprocAttr,WY]
  exact⟨_,rfl,by simp,hx⟩
 have hltc:(i:Int)<l.length:=by omega
 obtain⟨q,hq⟩:∃q,l[i]?=some q:=⟨l[i],by simp⟩
 rw[drop_at hq,List.any_cons]at e
 obtain⟨U,hU,hxU⟩:=hF T hx q (Yg hq)
 rcases h with ⟨-,rfl⟩ | ⟨lx,rfl⟩
 ·cases hq
 cases hp:p q
 ·rw[hp]at hU e
  rw[Bool.false_or]at e
  simp(maxSteps:=1000000)(disch:=omega)only[push_cast,hal,h0,h1,h7,h8,↓wo_callv,callV_func,hltc,hlt,hq,encZ,hU,wrap_ok,Zz,Ze,Int.natCast_add,Int.natCast_one,↓WX,simprocAttr]
  exact⟨hx.trans hxU,e⟩
 ·rw[hp]at hU e
  rw[Bool.true_or]at e
  subst e
  simp only[push_cast,Yy,hal,h0,h1,h7,h8,↓wo_callv,callV_func,hltc,hq,encZ,hU,Zz,Ze,Tryz.f212,↓WX,simprocAttr]
  exact⟨_,rfl,by simp,hx.trans hxU⟩
theorem PCtZ_d {F:Nat} {ys:List D} {p:Int->Bool} {d:D} {l:List Int} {S:List Ob} (h:FLs 1 encZ d l) (hn:1048580<=n) (hl:l.length<=1048576) (hys:pureL ys=false)
  (hF:∀T,ExtS S T->∀q∈l,∃U,callD E (dcall E (n+1)) false T F (.int .i64 q::ys)=some (.bool (p q),U)/\ExtS T U):
  ∃T,callD E (dcall E (n+3)) false S 174 [d,.func F [] ys]=some (.bool (l.any p),T)/\ExtS S T:=by
 obtain⟨r,T,hT,k,rfl,hk,hx⟩:=PIxZ_d (n:=n) (F:=F) (ys:=ys) (p:=p) h hn hl hF
 have cx:callD E (dcall E (n+2)) false S 212 [d,.func F [] ys]=some (.int .i64 k,T):=(callD_own rfl (by simp[pureL,D.pure,hys])).trans hT
 rw[<-hk]
 have:WO (dcall E (n+3) 174 [d,.func F [] ys] S) λd T=>d=.bool (decide (0<=k))/\ExtS S T:=by
  refine wo_dcall Tryz.func174 rfl (by decide) rfl 9 rfl (λa hal ha=>?_)
  have h0:a[0]?=some _:=ha 0 (by simp)
  have h1:a[1]?=some _:=ha 1 (by simp)
  clear ha
  simp only[push_cast,hal,h0,h1,cx,Xe,Tryz.f174,↓WX,simprocAttr]
  exact hx
 obtain⟨r,T',hT',rfl,h⟩:=this
 exact⟨T',(callD_own rfl (by simp[pureL,D.pure,hys])).trans hT',h⟩
theorem PIxS_d {F:Nat} {ys:List D} {p:ByteArray->Bool} {d:D} {l:List ByteArray} {S:List Ob} (h:FLs 1 Cnd.encT d l) (hn:1048580<=n) (hl:l.length<=1048576)
  (hF:∀T,ExtS S T->∀q∈l,∃U,callD E (dcall E (n+1)) false T F (.str q::ys)=some (.bool (p q),U)/\ExtS T U):
  WO (dcall E (n+2) 235 [d,.func F [] ys] S) λr T=>∃k:Int,r=.int .i64 k/\decide (0<=k)=l.any p/\ExtS S T:=by
 have hy:=λS=>fls_len (S:=S) Tryz.underlying67 h
 simp only[push_cast]at hy
 obtain⟨b,hb⟩:∃b,b=l.any p:=⟨_,rfl⟩
 rw[<-hb]
 refine wo_dcall Tryz.func235 rfl (by decide) rfl 19 rfl (λa hal ha=>?_)
 have h0:a[0]?=some _:=ha 0 (by simp)
 have h1:a[1]?=some _:=ha 1 (by simp)
 clear ha
 simp only[push_cast,hal,h0,hy,↓WX,simprocAttr]
 refine wl_loop (λi a T=>(ExtS S T/\b=(l.drop i).any p)/\a.length=19/\a[0]?=some (d)/\a[1]?=some (.func F [] ys)/\a[7]?=some (.int .i64 l.length)/\a[8]?=some (.int .i64 i)) l.length ?_ (by omega) ?_
 ·simp only[push_cast,hal,h0,h1,simprocAttr,WY]
  exact⟨ExtS.refl,hb⟩
 clear hb
 rintro i a T hi ⟨⟨hx,e⟩,hal,h0,h1,h7,h8⟩
 rcases Yf hi with hlt |rfl
 case inr=>
  rw[Zt,List.any_nil]at e
  subst e
  simp only[push_cast,decide_eq_false_iff_not,hal,h7,h8,Tryz.f235,↓WX,simprocAttr,WY]
  exact⟨_,rfl,by simp,hx⟩
 have hltc:(i:Int)<l.length:=by omega
 obtain⟨q,hq⟩:∃q,l[i]?=some q:=⟨l[i],by simp⟩
 rw[drop_at hq,List.any_cons]at e
 obtain⟨U,hU,hxU⟩:=hF T hx q (Yg hq)
 rcases h with ⟨-,rfl⟩ | ⟨lx,rfl⟩
 ·cases hq
 cases hp:p q
 ·rw[hp]at hU e
  rw[Bool.false_or]at e
  simp(maxSteps:=1000000)(disch:=omega)only[push_cast,hal,h0,h1,h7,h8,↓wo_callv,callV_func,hltc,hlt,hq,Cnd.encT,hU,wrap_ok,Zz,Ze,Int.natCast_add,Int.natCast_one,↓WX,simprocAttr]
  exact⟨hx.trans hxU,e⟩
 ·rw[hp]at hU e
  rw[Bool.true_or]at e
  subst e
  simp only[push_cast,Yy,hal,h0,h1,h7,h8,↓wo_callv,callV_func,hltc,hq,Cnd.encT,hU,Zz,Ze,Tryz.f235,↓WX,simprocAttr]
  exact⟨_,rfl,by simp,hx.trans hxU⟩
theorem PCtS_d {F:Nat} {ys:List D} {p:ByteArray->Bool} {d:D} {l:List ByteArray} {S:List Ob} (h:FLs 1 Cnd.encT d l) (hn:1048580<=n) (hl:l.length<=1048576) (hys:pureL ys=false)
  (hF:∀T,ExtS S T->∀q∈l,∃U,callD E (dcall E (n+1)) false T F (.str q::ys)=some (.bool (p q),U)/\ExtS T U):
  ∃T,callD E (dcall E (n+3)) false S 210 [d,.func F [] ys]=some (.bool (l.any p),T)/\ExtS S T:=by
 obtain⟨r,T,hT,k,rfl,hk,hx⟩:=PIxS_d (n:=n) (F:=F) (ys:=ys) (p:=p) h hn hl hF
 have cx:callD E (dcall E (n+2)) false S 235 [d,.func F [] ys]=some (.int .i64 k,T):=(callD_own rfl (by simp[pureL,D.pure,hys])).trans hT
 rw[<-hk]
 have:WO (dcall E (n+3) 210 [d,.func F [] ys] S) λd T=>d=.bool (decide (0<=k))/\ExtS S T:=by
  refine wo_dcall Tryz.func210 rfl (by decide) rfl 9 rfl (λa hal ha=>?_)
  have h0:a[0]?=some _:=ha 0 (by simp)
  have h1:a[1]?=some _:=ha 1 (by simp)
  clear ha
  simp only[push_cast,hal,h0,h1,cx,Xe,Tryz.f210,↓WX,simprocAttr]
  exact hx
 obtain⟨r,T',hT',rfl,h⟩:=this
 exact⟨T',(callD_own rfl (by simp[pureL,D.pure,hys])).trans hT',h⟩
theorem PIndexS_x {d:D} {l:List ByteArray} (h:FLs 1 Cnd.encT d l) (hl:l.length<=1048576) (v:ByteArray) (hn:1048590<=n):∃k:Int,decide (0<=k)=(l.any λx=>decide (x=v))/\∀st S,callD E (dcall E n) st S 213 [d,.str v]=some (.int .i64 k,S):=by
 obtain⟨m,rfl⟩:∃m,n=m+1:=⟨n-1,by omega⟩
 have hp:=fls_pure h (Cnd.encT_pure l)
 have hy:=λS=>fls_len (S:=S) Tryz.underlying67 h
 simp only[push_cast]at hy
 have:WO (dcall E (m+1) 213 [d,.str v] []) λr T=>∃k:Int,r=.int .i64 k/\decide (0<=k)=l.any λx=>decide (x=v):=by
  obtain⟨q,hq⟩:∃q,q=l.any λx=>decide (x=v):=⟨_,rfl⟩
  rw[<-hq]
  refine wo_dcall Tryz.func213 rfl (by decide) rfl 19 rfl (λa hal ha=>?_)
  have h0:a[0]?=some _:=ha 0 (by simp)
  have h1:a[1]?=some _:=ha 1 (by simp)
  clear ha
  simp only[push_cast,hal,h0,hy,↓WX,simprocAttr]
  refine wl_loop (λi a T=>(T=[]/\q=(l.drop i).any λx=>decide (x=v))/\a.length=19/\a[0]?=some (d)/\a[1]?=some (.str v)/\a[7]?=some (.int .i64 l.length)/\a[8]?=some (.int .i64 i)) l.length ?_ (by omega) ?_
  ·simp only[push_cast,hal,h0,h1,simprocAttr,WY]
   exact hq
  rintro i a T hi ⟨⟨rfl,e⟩,hal,h0,h1,h7,h8⟩
  rcases Yf hi with hlt |rfl
  case inr=>
   rw[Zt,List.any_nil]at e
   subst e
   simp only[push_cast,decide_eq_false_iff_not,hal,h7,h8,Tryz.f213,↓WX,simprocAttr,WY]
   exact⟨_,rfl,by simp⟩
  have hltc:(i:Int)<l.length:=by omega
  obtain⟨x,hx⟩:∃x,l[i]?=some x:=⟨l[i],by simp⟩
  rw[drop_at hx,List.any_cons]at e
  rcases h with ⟨-,rfl⟩ | ⟨lx,rfl⟩
  ·cases hx
  by_cases c:v=x
  ·have e1:decide (x=v)=true:=Yn c.symm
   have e2:decide (v=x)=true:=Yn c
   rw[e1,Bool.true_or]at e
   subst e
   simp only[push_cast,Yy,hal,h0,h1,h7,h8,hltc,hx,e2,str_eq,Cnd.encT,Tryz.f213,↓WX,simprocAttr]
   exact⟨_,rfl,by simp⟩
  ·have e1:decide (x=v)=false:=Ym λh=>c h.symm
   have e2:decide (v=x)=false:=Ym c
   rw[e1,Bool.false_or]at e
   simp(maxSteps:=1000000)(disch:=omega)only[push_cast,hal,h0,h1,h7,h8,hltc,hlt,hx,e2,str_eq,Cnd.encT,wrap_ok,Int.natCast_add,Int.natCast_one,↓WX,simprocAttr]
   exact e
 obtain⟨_,T,ho,k,rfl,hk⟩:=this
 exact⟨k,hk,λst S=>callD_obsP rfl (by simp only[pureL_cons,pureL_nil,hp,D.pure,Yj]) ho rfl⟩
theorem PContS_x {d:D} {l:List ByteArray} (h:FLs 1 Cnd.encT d l) (hl:l.length<=1048576) (v:ByteArray) (hn:1048600<=n):∀st S,callD E (dcall E n) st S 176 [d,.str v]=some (.bool (l.any λx=>decide (x=v)),S):=by
 obtain⟨m,rfl⟩:∃m,n=m+1:=⟨n-1,by omega⟩
 have hp:=fls_pure h (Cnd.encT_pure l)
 obtain⟨r,hr,cr⟩:=PIndexS_x (n:=m) h hl v (by omega)
 rw[<-hr]
 have:WO (dcall E (m+1) 176 [d,.str v] []) λq T=>q=.bool (decide (0<=r)):=by
  refine wo_dcall Tryz.func176 rfl (by decide) rfl 9 rfl (λa hal ha=>?_)
  have h0:a[0]?=some _:=ha 0 (by simp)
  have h1:a[1]?=some _:=ha 1 (by simp)
  clear ha
  simp only[push_cast,hal,h0,h1,cr,Xe,Tryz.f176,↓WX,simprocAttr]
 obtain⟨_,T,ho,rfl⟩:=this
 exact λst S=>callD_obsP rfl (by simp only[pureL_cons,pureL_nil,hp,D.pure,Yj]) ho rfl
theorem PWeekday_x (hn:1<=n) (x:Int):∀st S,callD E (dcall E n) st S 234 [.int .i64 x]=some (.int .i64 (wdF x:Int),S):=by
 obtain⟨m,rfl⟩:∃m,n=m+1:=⟨n-1,by omega⟩
 obtain⟨h1,h2⟩:=tmod_pos (a:=x) (b:=7) (by omega)
 have hw:((x.tmod 7+12).tmod 7)=(wdF x:Int):=by
  have:=Int.tmod_nonneg (a:=x.tmod 7+12) 7 (by omega)
  unfold wdF
  omega
 obtain⟨w,hw'⟩:∃w,w=wdF x:=⟨_,rfl⟩
 rw[<-hw']at hw ⊢
 obtain⟨y,hy⟩:∃y,y=x.tmod 7:=⟨_,rfl⟩
 rw[<-hy]at h1 h2 hw
 have w1:IntKind.i64.wrap (y+12)=y+12:=wrap_ok (by omega) (by omega)
 have:WO (dcall E (m+1) 234 [.int .i64 x] []) λr T=>r=.int .i64 w:=by
  refine wo_dcall Tryz.func234 rfl (by decide) rfl 7 rfl (λa hal ha=>?_)
  have h0:a[0]?=some _:=ha 0 (by simp)
  clear ha
  simp only[push_cast,hal,h0,<-hy,w1,hw,Tryz.f234,↓WX,simprocAttr]
 obtain⟨_,T,ho,rfl⟩:=this
 exact λst S=>callD_pure rfl rfl ho rfl
theorem on_bits:∀(d:Fin 128) (w:Fin 7),decide (IntKind.i64.wrap (((BitVec.ofInt 64 (((d.val:Nat):Int).fdiv (2 ^ w.val)) &&& BitVec.ofInt 64 1).toNat:Nat):Int)=1)=decide ((((d.val:Nat):Int).tdiv (2 ^ w.val)).tmod 2=1):=by decide +kernel
theorem POn_x (hn:2<=n) (d x:Int) (hd:1<=d/\d<=127):∀st S,callD E (dcall E n) st S 209 [.int .i64 d,.int .i64 x]=some (.bool (decide ((d.tdiv (2 ^ wdF x)).tmod 2=1)),S):=by
 obtain⟨m,rfl⟩:∃m,n=m+1:=⟨n-1,by omega⟩
 have cw:=PWeekday_x (n:=m) (by omega) x
 have hw:=wdF_le x
 generalize wdF x=w at*
 obtain⟨k,rfl⟩:∃k:Nat,d=k:=⟨d.toNat,by omega⟩
 have hb:=on_bits ⟨k,by omega⟩ ⟨w,by omega⟩
 have hmin:min w 64=w:=by omega
 have hg:((w:Int)<0)=False:=eq_false (by omega)
 have:WO (dcall E (m+1) 209 [.int .i64 k,.int .i64 x] []) λr T=>r=.bool (decide (((k:Int).tdiv (2 ^ w)).tmod 2=1)):=by
  rw[<-hb]
  refine wo_dcall Tryz.func209 rfl (by decide) rfl 11 rfl (λa hal ha=>?_)
  have h0:a[0]?=some _:=ha 0 (by simp)
  have h1:a[1]?=some _:=ha 1 (by simp)
  clear ha
  simp only[push_cast,hal,h0,h1,cw,hg,hmin,dShift,IntKind.bits,Tryz.f209,↓WX,simprocAttr]
  rfl
 obtain⟨_,T,ho,rfl⟩:=this
 exact λst S=>callD_pure rfl rfl ho rfl
theorem PCheck04_x (hn:1<=n) (f t d:Int):∀st S,callD E (dcall E n) st S 208 [.agg [.int .i64 f,.int .i64 t,.int .i64 d]]=some (.int .i64 (chkF f t d),S):=by
 obtain⟨m,rfl⟩:∃m,n=m+1:=⟨n-1,by omega⟩
 have:WO (dcall E (m+1) 208 [.agg [.int .i64 f,.int .i64 t,.int .i64 d]] []) λr T=>r=.int .i64 (chkF f t d):=by
  obtain⟨q,hq⟩:∃q,q=chkF f t d:=⟨_,rfl⟩
  rw[<-hq]
  unfold chkF at hq
  refine wo_dcall Tryz.func208 rfl (by decide) rfl 35 rfl (λa hal ha=>?_)
  have h0:a[0]?=some _:=ha 0 (by simp)
  clear ha
  by_cases q1:f<0
  ·simp only[push_cast,hal,h0,q1,Tryz.f208,↓WX,simprocAttr]
   rw[hq,if_pos (by omega)]
  by_cases q2:t<f
  ·simp only[push_cast,hal,h0,q1,q2,Tryz.f208,↓WX,simprocAttr]
   rw[hq,if_pos (by omega)]
  by_cases q3:36525<=t
  ·simp only[push_cast,hal,h0,q1,q2,q3,Tryz.f208,↓WX,simprocAttr]
   rw[hq,if_pos (by omega)]
  rw[if_neg (by omega)]at hq
  by_cases q4:800<=t-f
  ·simp(maxSteps:=1000000)(disch:=omega)only[push_cast,hal,h0,q1,q2,q3,q4,wrap_ok,Tryz.f208,↓WX,simprocAttr]
   rw[hq,if_pos (by omega)]
  rw[if_neg (by omega)]at hq
  by_cases q5:d<1
  ·simp(maxSteps:=1000000)(disch:=omega)only[push_cast,hal,h0,q1,q2,q3,q4,q5,wrap_ok,Tryz.f208,↓WX,simprocAttr]
   rw[hq,if_pos (by omega)]
  by_cases q6:127<d
  ·simp(maxSteps:=1000000)(disch:=omega)only[push_cast,Zx,hal,h0,q1,q2,q3,q4,q5,q6,wrap_ok,Tryz.f208,↓WX,simprocAttr]
   rw[hq,if_pos (by omega)]
  ·simp(maxSteps:=1000000)(disch:=omega)only[push_cast,Zx,hal,h0,q1,q2,q3,q4,q5,q6,wrap_ok,Tryz.f208,↓WX,simprocAttr]
   rw[hq,if_neg (by omega)]
 obtain⟨_,T,ho,rfl⟩:=this
 exact λst S=>callD_pure rfl rfl ho rfl
theorem PHas04_x (hn:30<=n) (f t d x:Int):∀st S,callD E (dcall E n) st S 172 [.agg [.int .i64 f,.int .i64 t,.int .i64 d],.int .i64 x]=some (.bool (perF f t d x),S):=by
 obtain⟨m,rfl⟩:∃m,n=m+1:=⟨n-1,by omega⟩
 have ce:=PCheck04_x (n:=m) (by omega) f t d
 have hd:chkF f t d=0->1<=d/\d<=127:=λh=>by
  unfold chkF at h
  repeat' split at h
  all_goals first |omega | (cases h)
 have co:=λh=>POn_x (n:=m) (by omega) d x (hd h)
 unfold perF
 generalize chkF f t d=e at*
 generalize decide ((d.tdiv (2 ^ wdF x)).tmod 2=1)=b at*
 have:WO (dcall E (m+1) 172 [.agg [.int .i64 f,.int .i64 t,.int .i64 d],.int .i64 x] []) λr T=>r=.bool (decide (e=0) && (decide (f<=x) && (decide (x<=t) && b))):=by
  refine wo_dcall Tryz.func172 rfl (by decide) rfl 26 rfl (λa hal ha=>?_)
  have h0:a[0]?=some _:=ha 0 (by simp)
  have h1:a[1]?=some _:=ha 1 (by simp)
  clear ha
  by_cases q1:e=0
  case neg=>
   simp only[push_cast,hal,h0,ce,q1,Tryz.f172,↓WX,simprocAttr,WY]
  have co:=co q1
  subst q1
  by_cases q2:f<=x
  case neg=>
   simp only[push_cast,hal,h0,h1,ce,q2,Tryz.f172,↓WX,simprocAttr,WY]
  by_cases q3:x<=t
  case neg=>
   simp only[push_cast,hal,h0,h1,ce,q2,q3,Tryz.f172,↓WX,simprocAttr,WY]
  simp only[push_cast,hal,h0,h1,ce,co,q2,q3,Tryz.f172,↓WX,simprocAttr,WY]
 obtain⟨_,T,ho,rfl⟩:=this
 exact λst S=>callD_pure rfl rfl ho rfl
end
mutual
theorem bulkW_le {H:Type}:∀d:DataW H,bulkW d<=Rows.uptoBulk d
 | .lit l=>by cases l <;> simp[bulkW,Rows.uptoBulk]
 | .nil=>by simp[bulkW,Rows.uptoBulk]
 | .ptr d=>by simp[bulkW,Rows.uptoBulk]
 | .slice es sp=>by
  have:=bulkWs_le es
  simp only[bulkW,Rows.uptoBulk];omega
 | .agg ps=>by
  have:=bulkWs_le ps
  simp only[bulkW,Rows.uptoBulk];omega
 | .iface t d=>by simp[bulkW,Rows.uptoBulk]
 | .map es=>by simp[bulkW,Rows.uptoBulk]
 | .held h=>by simp[bulkW,Rows.uptoBulk]
theorem bulkWs_le {H:Type}:∀l:List (DataW H),bulkWs l<=Rows.uptoBulkAll l
 | []=>Yt _
 |d::l=>by
  have h1:=bulkW_le d
  have h2:=bulkWs_le l
  simp only[bulkWs,Rows.uptoBulkAll];omega
end
theorem bulk_small {H:Type} {ds:List (DataW H)} (h:Rows.uptoSmall H (ds++[])=true):bulkWs ds<=1048576:=by
 rw[Za]at h
 exact Zu (bulkWs_le ds) (Zk h)
end Go.Proofs.YtaklebjoenophaaGreat.Dm
