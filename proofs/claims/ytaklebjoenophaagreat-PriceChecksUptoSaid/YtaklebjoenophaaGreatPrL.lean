/-
  Distances: what is the length of the shortest way. The plain law of a search that follows distances until nothing changes.
  What a rule allows: the program, in terms of its condition.
  Whether a price is valid: the reference, exactly (in terms of what the fares of its components come to).
  The search for the cheapest price of a journey: the ways, the least amounts and the prices as plain data; the law of the search holds of them.
-/
import Derived.Test.YtaklebjoenophaaGreatPoH
import Derived.Test.YtaklebjoenophaaGreatPrG
import Derived.Test.YtaklebjoenophaaGreatPrB
import Derived.Test.YtaklebjoenophaaGreatTfD
import Derived.Test.YtaklebjoenophaaGreatZg
set_option maxHeartbeats 64000000
set_option maxRecDepth 100000
set_option linter.unusedSimpArgs false
set_option linter.unusedVariables false
namespace Go.Proofs.YtaklebjoenophaaGreat.Dm
open Go Gw
def Dst.ok (x:Dst):Prop:=1<=x.mi/\x.mi<=20000
instance (x:Dst):Decidable x.ok:=inferInstanceAs (Decidable (_/\_))
inductive Wk (ds:List Dst) (c:ByteArray):ByteArray->Int->Prop
 |nil:Wk ds c c 0
 |fr {x:Dst} {d:Int}:x∈ds->x.ok->Wk ds c x.fr d->Wk ds c x.to (d+x.mi)
 |to {x:Dst} {d:Int}:x∈ds->x.ok->Wk ds c x.to d->Wk ds c x.fr (d+x.mi)
def MilR (ds:List Dst) (c g:ByteArray) (q e:Int):Prop:=(e=0/\Wk ds c g q/\∀d,Wk ds c g d->q<=d)∨(e=7/\q=0/\∀d,¬Wk ds c g d)
theorem MilR.uniq {ds:List Dst} {c g:ByteArray} {q e q' e':Int} (h:MilR ds c g q e) (h':MilR ds c g q' e'):q=q'/\e=e':=by
 rcases h with ⟨h1,h2,h3⟩ | ⟨h1,h2,h3⟩ <;> rcases h' with ⟨g1,g2,g3⟩ | ⟨g1,g2,g3⟩
 ·have:=h3 _ g2
  have:=g3 _ h2
  exact⟨by omega,by omega⟩
 ·exact (g3 _ h2).elim
 ·exact (h3 _ g2).elim
 ·exact⟨by omega,by omega⟩
def rlxF (x y:ByteArray) (v:Int) (l:List (ByteArray×Int)):List (ByteArray×Int)×Bool:=if rchF x l<0 then (l,false) else reF y (rchF x l+v) l
def ClsD (l:List (ByteArray×Int)) (x:Dst):Prop:=(0<=rchF x.fr l->0<=rchF x.to l/\rchF x.to l<=rchF x.fr l+x.mi)/\(0<=rchF x.to l->0<=rchF x.fr l/\rchF x.fr l<=rchF x.to l+x.mi)
structure Snd (ds:List Dst) (c:ByteArray) (l:List (ByteArray×Int)):Prop where
 zero:rchF c l=0
 ways:∀p∈l,Wk ds c p.1 p.2
theorem rchF_mem {s:ByteArray}:∀ {l:List (ByteArray×Int)},0<=rchF s l->(s,rchF s l)∈l
 | [],h=>by unfold rchF at h;omega
 |p::ps,h=>by
  unfold rchF at h ⊢
  split
  ·rename_i c
   rw[if_pos c]at h
   rw[<-c]
   exact Uo ..
  ·rename_i c
   rw[if_neg c]at h
   exact Um _ (rchF_mem h)
def rmn (v r:Int):Int:=if r<0 then v else if r<=v then r else v
theorem rmn_no {v r:Int} (h:r<0):rmn v r=v:=if_pos h
theorem rmn_lo {v r:Int} (h:0<=r) (g:r<=v):rmn v r=r:=by unfold rmn;rw[if_neg (by omega),if_pos g]
theorem rmn_hi {v r:Int} (h:0<=r) (g:¬r<=v):rmn v r=v:=by unfold rmn;rw[if_neg (by omega),if_neg g]
theorem rch_nil (s:ByteArray):rchF s []= -1:=rfl
theorem rch_cons (s:ByteArray) (p:ByteArray×Int) (ps:List (ByteArray×Int)):rchF s (p::ps)=if p.1=s then p.2 else rchF s ps:=rfl
theorem reF_rch (s t:ByteArray) (v:Int):∀l:List (ByteArray×Int),(∀p∈l,0<=p.2)->rchF t (reF s v l).1=if t=s then rmn v (rchF s l) else rchF t l
 | [],_=>by
  unfold reF
  dsimp only
  rw[rch_nil,rch_cons,rch_nil]
  by_cases c:t=s
  ·rw[if_pos c,if_pos c.symm,rmn_no (by omega)]
  ·rw[if_neg c,if_neg (λe=>c e.symm)]
 |p::ps,h=>by
  have ih:=reF_rch s t v ps λq hq=>h q (Um _ hq)
  have hp:=h p (Uo ..)
  unfold reF
  by_cases c:p.1=s
  ·rw[if_pos c]
   by_cases c2:p.2<=v
   ·rw[if_pos c2]
    dsimp only
    by_cases c3:t=s
    ·rw[if_pos c3,c3,rch_cons,if_pos c,rmn_lo hp c2]
    ·rw[if_neg c3]
   ·rw[if_neg c2]
    dsimp only
    rw[rch_cons]
    dsimp only
    by_cases c3:t=s
    ·rw[if_pos c3,c3,if_pos c,rch_cons,if_pos c,rmn_hi hp c2]
    ·rw[if_neg c3,if_neg (λe=>c3 (e.symm.trans c)),rch_cons,if_neg (λe=>c3 (e.symm.trans c))]
  ·rw[if_neg c]
   dsimp only
   rw[rch_cons,ih]
   by_cases c3:p.1=t
   ·rw[if_pos c3,if_neg (λe=>c (c3.trans e)),rch_cons,if_pos c3]
   ·rw[if_neg c3,rch_cons t,if_neg c3]
    by_cases c4:t=s
    ·rw[if_pos c4,if_pos c4,rch_cons,if_neg c]
    ·rw[if_neg c4,if_neg c4]
theorem reF_false {s:ByteArray} {v:Int}:∀ {l:List (ByteArray×Int)},(∀p∈l,0<=p.2)->(reF s v l).2=false->(reF s v l).1=l/\0<=rchF s l/\rchF s l<=v
 | [],_,h=>by unfold reF at h;cases h
 |p::ps,hp,h=>by
  unfold reF at h ⊢
  simp only[rchF]
  by_cases c:p.1=s
  ·rw[if_pos c]at h ⊢
   by_cases c2:p.2<=v
   ·rw[if_pos c2,if_pos c]
    exact⟨rfl,hp p (Uo ..),c2⟩
   ·rw[if_neg c2]at h;cases h
  ·rw[if_neg c]at h ⊢
   obtain⟨h1,h2,h3⟩:=reF_false (l:=ps) (λq hq=>hp q (Um _ hq)) h
   rw[if_neg c]
   exact⟨by rw[h1],h2,h3⟩
theorem reF_le {s:ByteArray} {v:Int}:∀ {l:List (ByteArray×Int)},0<=rchF s l->rchF s l<=v->reF s v l=(l,false)
 | [],h,_=>by unfold rchF at h;omega
 |p::ps,h,g=>by
  unfold rchF at h g
  unfold reF
  by_cases c:p.1=s
  ·rw[if_pos c]at h g
   rw[if_pos c,if_pos g]
  ·rw[if_neg c]at h g
   rw[if_neg c,reF_le h g]
theorem Snd.re {ds:List Dst} {c s:ByteArray} {l:List (ByteArray×Int)} {v:Int} (h:Snd ds c l) (hp:∀p∈l,0<=p.2) (hv:0<=v) (hw:Wk ds c s v):Snd ds c (reF s v l).1:=by
 refine⟨?_,λp hm=>?_⟩
 ·rw[reF_rch s c v l hp]
  by_cases e:c=s
  ·subst e
   rw[if_pos rfl,h.zero,rmn_lo (Int.le_refl _) hv]
  ·rw[if_neg e,h.zero]
 ·rcases reF_cases s v l with ⟨-,e⟩ | ⟨i,x,h1,h2,⟨-,e⟩ | ⟨-,e⟩⟩
  ·rw[e]at hm
   rcases List.mem_append.1 hm with hm |hm
   ·exact h.ways p hm
   ·obtain rfl:=List.mem_singleton.1 hm
    exact hw
  ·rw[e]at hm
   exact h.ways p hm
  ·rw[e]at hm
   rcases List.mem_or_eq_of_mem_set hm with hm |rfl
   ·exact h.ways p hm
   ·exact hw
theorem rlxF_good {ns:List ByteArray} {l:List (ByteArray×Int)} {x y:ByteArray} {v:Int} (h:Gd ns l) (hn:ns.length<=41) (hs:y∈ns) (h0:0<=v) (h1:v<=20000):
  Gd ns (rlxF x y v l).1/\muF ns (rlxF x y v l).1<=muF ns l/\((rlxF x y v l).2=true->muF ns (rlxF x y v l).1+1<=muF ns l):=by
 unfold rlxF
 by_cases c:rchF x l<0
 ·rw[if_pos c]
  exact⟨h,Uk _,λe=>by cases e⟩
 ·rw[if_neg c]
  have:=rchF_hi (s:=x) h (by omega)
  exact reF_good h hn hs (by omega) (by omega)
theorem Snd.rlx {ds:List Dst} {c:ByteArray} {l:List (ByteArray×Int)} {x:Dst} (h:Snd ds c l) (hp:∀p∈l,0<=p.2) (hx:x∈ds) (hk:x.ok):Snd ds c (rlxF x.fr x.to x.mi l).1/\Snd ds c (rlxF x.to x.fr x.mi l).1:=by
 have k1:=hk.1
 refine⟨?_,?_⟩
 ·unfold rlxF
  by_cases e:rchF x.fr l<0
  ·rw[if_pos e];exact h
  ·rw[if_neg e]
   have hv:0<=rchF x.fr l+x.mi:=by omega
   exact h.re (v:=rchF x.fr l+x.mi) hp hv (.fr hx hk (h.ways _ (rchF_mem (s:=x.fr) (l:=l) (by omega))))
 ·unfold rlxF
  by_cases e:rchF x.to l<0
  ·rw[if_pos e];exact h
  ·rw[if_neg e]
   have hv:0<=rchF x.to l+x.mi:=by omega
   exact h.re (v:=rchF x.to l+x.mi) hp hv (.to hx hk (h.ways _ (rchF_mem (s:=x.to) (l:=l) (by omega))))
theorem rlxF_false {x y:ByteArray} {v:Int} {l:List (ByteArray×Int)} (hp:∀p∈l,0<=p.2) (h:(rlxF x y v l).2=false):(rlxF x y v l).1=l/\(0<=rchF x l->0<=rchF y l/\rchF y l<=rchF x l+v):=by
 unfold rlxF at h ⊢
 by_cases e:rchF x l<0
 ·rw[if_pos e]
  exact⟨rfl,λh=>by omega⟩
 ·rw[if_neg e]at h ⊢
  obtain⟨h1,h2,h3⟩:=reF_false hp h
  exact⟨h1,λ_=>⟨h2,h3⟩⟩
theorem Snd.done {ds:List Dst} {c:ByteArray} {l:List (ByteArray×Int)} (h:Snd ds c l) (hp:∀p∈l,0<=p.2) (hc:∀x∈ds,x.ok->ClsD l x) (g:ByteArray):
  MilR ds c g (if rchF g l<0 then 0 else rchF g l) (if rchF g l<0 then 7 else 0):=by
 have key:∀t d,Wk ds c t d->0<=rchF t l/\rchF t l<=d:=λt d w=>by
  induction w with
  |nil=>rw[h.zero];omega
  |fr hx hk _ ih=>
   obtain⟨a,b⟩:=(hc _ hx hk).1 ih.1
   exact⟨a,by omega⟩
  |to hx hk _ ih=>
   obtain⟨a,b⟩:=(hc _ hx hk).2 ih.1
   exact⟨a,by omega⟩
 by_cases e:rchF g l<0
 ·rw[if_pos e,if_pos e]
  exact .inr ⟨rfl,rfl,λd w=>by have:=key g d w;omega⟩
 ·rw[if_neg e,if_neg e]
  exact .inl ⟨rfl,h.ways _ (rchF_mem (s:=g) (l:=l) (by omega)),λd w=>(key g d w).2⟩
def MilS (p:Plc) (s t:ByteArray) (q e:Int):Prop:=
 if Kb p s=ByteArray.mk #[]∨Kb p t=ByteArray.mk #[] then q=0/\e=14 else MilR p.dts (Kb p s) (Kb p t) q e
theorem MilS.uniq {p:Plc} {s t:ByteArray} {q e q' e':Int} (h:MilS p s t q e) (h':MilS p s t q' e'):q=q'/\e=e':=by
 unfold MilS at h h'
 split at h
 ·rename_i c
  rw[if_pos c]at h'
  exact⟨h.1.trans h'.1.symm,h.2.trans h'.2.symm⟩
 ·rename_i c
  rw[if_neg c]at h'
  exact h.uniq h'
theorem MilS.pos {p:Plc} {s t:ByteArray} {q e:Int} (h:MilS p s t q e):0<=q:=by
 have:∀c g d,Wk p.dts c g d->0<=d:=λc g d w=>by
  induction w with
  |nil=>exact Int.le_refl _
  |fr _ hk _ ih=>have:=hk.1;omega
  |to _ hk _ ih=>have:=hk.1;omega
 unfold MilS at h
 split at h
 ·omega
 ·rcases h with ⟨-,h,-⟩ | ⟨-,h,-⟩
  ·exact this _ _ _ h
  ·omega
section
variable {n : Nat}
theorem PAllows_x {y0:Int} {y1 y2 y3 y4 y5 y6 y7 y8 y9 y10 y11 y12 y13 y14:D} (ho:[y1,y2,y3,y4,y5,y6,y7,y8,y9,y10,y11,y12,y13,y14].all D.one=true) (hp:Yp [.agg [.int .i64 y0,y1,y2,y3,y4,y5,y6,y7,y8,y9,y10,y11,y12,y13,y14]]=true) (t:Trp) {x y z:D} (ht:t.Ok x y z) (hone:x.one=true/\y.one=true/\z.one=true) (b:Bool) (hb:∀st S,Yi E (Yb E n) st S 119 [.agg [y1,y2,y3,y4,y5,y6,y7,y8],.agg (t.enc x y z)]=some (.bool b,S)):∀st S,Yi E (Yb E (n+1)) st S 63 [.agg [.int .i64 y0,y1,y2,y3,y4,y5,y6,y7,y8,y9,y10,y11,y12,y13,y14],.agg (t.enc x y z)]=some (.int .i64 (if b then 0 else 20),S):=by
 simp only[List.all_cons,List.all_nil,Ua,Kv,D.one]at ho
 obtain⟨r1,r2,r3,r4,r5,r6,r7,r8,r9,r10,r11,r12,r13,r14⟩:=ho
 simp only[D.one]at hone
 obtain⟨o6,o7,o8⟩:=hone
 have htp:=ht.pure
 have:WO (Yb E (n+1) 63 [.agg [.int .i64 y0,y1,y2,y3,y4,y5,y6,y7,y8,y9,y10,y11,y12,y13,y14],.agg (t.enc x y z)] []) λr T=>r=.int .i64 (if b then 0 else 20):=by
  simp only[Trp.enc]at hb ⊢
  refine Ye Tryz.func63 rfl (by decide) rfl 9 rfl (λa hal ha=>?_)
  obtain⟨h0,h1⟩:=aQ2 ha
  clear ha
  cases b
  ·simp only[push_cast,decide_not,Up,decide_eq_false_iff_not,bne_eq_false_iff_eq,beq_eq_false_iff_ne,Vn,ne_eq,Vp,Vo,hal,h0,h1,hb,o6,o7,o8,r1,r2,r3,r4,r5,r6,r7,r8,r9,r10,r11,r12,r13,r14,Ui,if_false,Tryz.f63,↓WX,simprocAttr]
  ·simp only[push_cast,decide_not,Up,decide_eq_false_iff_not,bne_eq_false_iff_eq,beq_eq_false_iff_ne,Vn,ne_eq,Vp,Vo,hal,h0,h1,hb,o6,o7,o8,r1,r2,r3,r4,r5,r6,r7,r8,r9,r10,r11,r12,r13,r14,if_true,Tryz.f63,↓WX,simprocAttr]
 obtain⟨_,T,hr,rfl⟩:=this
 refine λst S=>Yd rfl ?_ hr rfl
 rw[Yc,Yg,Ua]at hp
 rw[Yc,Yc,Yg,hp,Bool.true_and,Ua]
 simpa only[D.pure] using htp
end
def vfE (why:Prt->Int) (amt:Prt->Int×Int) (x:Prt):Int:=if why x=0 then if (amt x).2=0/\(amt x).1=x.am then 0 else 36 else why x
def wantF (z:Int×List (ByteArray×Int)×Int) (ps:List (Int×Int)) (l:List Prt):Quo:=⟨l,false,ps,false,z.2.1,false,z.1,z.2.2⟩
def validF (why:Prt->Int) (amt:Prt->Int×Int) (pct:Int->Int->Int×Int) (p:Plc) (t:Trf) (w:List Wnt) (s:ByteArray) (q:Quo):Int:=
 if w.length=0∨6<w.length then 2
 else if cvF q.parts 0 w.length=true then
  if fstE (vfE why amt) q.parts=0 then
   if checkF p t w q.parts=0 then
    match sumsF pct p t w s q.parts with
    |none=>36
    |some z=>if sameF (wantF z (Xq t q.parts).1 q.parts) q=true then 0 else 36
   else checkF p t w q.parts
  else fstE (vfE why amt) q.parts
 else 15
theorem cvF_mem {n:Int}:∀ {l:List Prt} {k:Int},cvF l k n=true->0<=k->∀x∈l,0<=x.fr/\x.fr<x.to/\x.to<=n
 | [],k,_,_,x,hx=>by cases hx
 |y::ys,k,h,hk,x,hx=>by
  unfold cvF at h
  split at h
  ·rename_i c
   rcases List.mem_cons.1 hx with rfl |hx
   ·exact⟨by omega,by omega,by omega⟩
   ·exact cvF_mem h (by omega) x hx
  ·cases h
section
variable {n : Nat}
theorem Pairs26_p (t:Trf) {d:D} {l:List Prt} (h:FLs 4 Prt.enc d l) (hl:l.length<=900) (hn:3001<=n):∃d',FLs 2 Xa d' (Xq t l).1/\∀st S,Yi E (Yb E n) st S 37 [.agg t.enc,d]=some (.tup [d',.int .i64 (Xq t l).2],S):=by
 obtain⟨m,rfl⟩:∃m,n=m+1:=⟨n-1,by omega⟩
 obtain⟨_,T,ho,hx,d',rfl,hg⟩:=Pairs26_d (n:=m) (S:=[]) t h.lq hl (by omega)
 obtain⟨d2,hf,hd⟩:=hg.flsN (Ka _) 37
 exact⟨d2,hd,λst S=>Yd rfl (by simp only[Yc,Yg,D.pure,Ja,Xr h (Jr _),Ua]) ho (freeze_tup2 hf)⟩
theorem Valid28_d (why:Prt->Int) (amt:Prt->Int×Int) (pct:Int->Int->Int×Int) (hpc:∀x y st S,Yi E (Yb E n) st S 143 [.int .i64 x,.int .i64 y]=some (.tup [.int .i64 (pct x y).1,.int .i64 (pct x y).2],S)) (p:Plc) (hpa:p.aps.length<=1048576) (hsh:∀a∈p.aps,a.sh.length<=1048576) (t:Trf) (hr:t.rules.length<=1048576) (hcb:∀r∈t.rules,r.comb.length<=1048576) (htl:t.taxes.length<=90000) (hlf:∀x∈t.taxes,x.free.length<=1048576) (w:List Wnt) (wx:Bool) (hw:w.length<=900) (s:ByteArray) (sale:Int) (q:Quo) (hql:q.parts.length<=900) (hqp:q.pairs.length<=1048576) (hqt:q.taxes.length<=1048576) (hn:1049010<=n)
  (hwhy:∀x:Prt,0<=x.fr->x.fr<x.to->x.to<=w.length->∀st S,Yi E (Yb E (n+2)) st S 33 [.agg p.enc,.agg t.enc,.int .i64 x.fa,.sl 8 (((w.map Wnt.enc).drop x.fr.toNat).take (x.to.toNat-x.fr.toNat)) (wx && decide (x.to.toNat=w.length)),.str s,.int .i64 sale]=some (.int .i64 (why x),S))
  (hamt:∀x:Prt,0<=x.fr->x.fr<x.to->x.to<=w.length->∀st S,Yi E (Yb E (n+2)) st S 34 [.agg p.enc,.agg t.enc,.int .i64 x.fa,.sl 8 (((w.map Wnt.enc).drop x.fr.toNat).take (x.to.toNat-x.fr.toNat)) (wx && decide (x.to.toNat=w.length)),.str s]=some (.tup [.int .i64 (amt x).1,.int .i64 (amt x).2],S)):
  WO (Yb E (n+3) 14 [.agg p.enc,.agg t.enc,.sl 8 (w.map Wnt.enc) wx,.str s,.int .i64 sale,.agg q.enc] []) λr T=>r=.int .i64 (validF why amt pct p t w s q):=by
 have hqf:FLs 4 Prt.enc (.sl 4 (q.parts.map Prt.enc) q.px) q.parts:=.inr ⟨_,rfl⟩
 have ccv:=covers28_c (n:=n+2) q.parts q.px (w.length:Int) (by omega) (by omega)
 have cck:=λst (S:List Ob)=>Check26_x (n:=n+2) (S:=S) p hpa hsh t hr hcb w wx hqf.lq hql (by omega) st
 obtain⟨dp,hdp,cpa⟩:=Pairs26_p (n:=n+2) t hqf hql (by omega)
 have csu:=λ(S:List Ob) (hw0:w≠[])=>sums28_d (n:=n) (S:=S) pct hpc p hpa t htl hlf w wx (by omega) hw0 s hqf.lq hql (by omega)
 obtain⟨z,hz⟩:∃z,z=validF why amt pct p t w s q:=⟨_,rfl⟩
 rw[<-hz]
 unfold validF at hz
 have hcm:=λh=>cvF_mem (n:=(w.length:Int)) (l:=q.parts) (k:=0) h (Int.le_refl _)
 generalize cvF q.parts 0 (w.length:Int)=bc at*
 generalize checkF p t w q.parts=ck at*
 simp only[Plc.enc,Trf.enc,Quo.enc]at cck cpa csu hwhy hamt ⊢
 obtain⟨V0,hV0⟩:∃V0:List Ob,V0=[Ob.row 2 [[.sl 5 (p.aps.map Apt.enc) p.apsx,.sl 3 (p.dts.map Dst.enc) p.dtsx]],Ob.row 4 [[.sl 9 (t.fares.map Far.enc) t.fx,.sl 15 (t.rules.map Rul.enc) t.rx,.sl 3 (t.rous.map Rou.enc) t.ox,.sl 7 (t.taxes.map Tx.enc) t.tx]],Ob.row 5 [[.sl 4 (q.parts.map Prt.enc) q.px,.sl 2 (q.pairs.map Xa) q.qx,.sl 2 (q.taxes.map Jf) q.tx,.int .i64 q.fare,.int .i64 q.total]]]:=⟨_,rfl⟩
 have g0:∀J,(V0++J)[0]?=some (Ob.row 2 [[.sl 5 (p.aps.map Apt.enc) p.apsx,.sl 3 (p.dts.map Dst.enc) p.dtsx]]):=λJ=>by rw[hV0];rfl
 have g1:∀J,(V0++J)[1]?=some (Ob.row 4 [[.sl 9 (t.fares.map Far.enc) t.fx,.sl 15 (t.rules.map Rul.enc) t.rx,.sl 3 (t.rous.map Rou.enc) t.ox,.sl 7 (t.taxes.map Tx.enc) t.tx]]):=λJ=>by rw[hV0];rfl
 have g2:∀J,(V0++J)[2]?=some (Ob.row 5 [[.sl 4 (q.parts.map Prt.enc) q.px,.sl 2 (q.pairs.map Xa) q.qx,.sl 2 (q.taxes.map Jf) q.tx,.int .i64 q.fare,.int .i64 q.total]]):=λJ=>by rw[hV0];rfl
 refine Ye Tryz.func14 rfl (by decide) rfl 122 rfl (λa hal ha=>?_)
 obtain⟨h0,h1,h2,h3,h4,h5⟩:=aQ6 ha
 clear ha
 refine Ya (λa V=>(∃J,V=V0++J)/\gQ a 122 (a[11]?=some (.loc 2 0 0)) [(2,.sl 8 (w.map Wnt.enc) wx),(3,.str s),(4,.int .i64 sale),(6,.loc 0 0 0),(7,.loc 1 0 0)]) ?_ ?_
 ·simp only[push_cast,hal,h0,h1,h2,h3,h4,h5,↓WX,simprocAttr]
  exact⟨[],by rw[hV0];rfl⟩
 clear hV0
 rintro a V ⟨⟨J0,rfl⟩,hal,h2,h3,h4,h6,h7,h11⟩
 have g2':=g2 J0
 by_cases w0:w.length=0
 ·rw[if_pos (.inl w0)]at hz
  subst hz
  have w0':decide ((w.length:Int)=0)=true:=Ue (by omega)
  simp only[push_cast,hal,h2,w0',Tryz.f14,↓WX,simprocAttr]
 have w0':decide ((w.length:Int)=0)=false:=Ud (by omega)
 by_cases w6:6<w.length
 ·rw[if_pos (.inr w6)]at hz
  subst hz
  have w6':((6:Int)<w.length)=True:=eq_true (by omega)
  simp only[push_cast,Vn,hal,h2,w0',w6',Tryz.f14,↓WX,simprocAttr]
 have w6':((6:Int)<w.length)=False:=eq_false (by omega)
 rw[if_neg (λh=>h.elim w0 w6)]at hz
 have csu:=λS=>csu S (λh=>w0 (by rw[h];rfl))
 refine Ya (λa V=>V=V0++J0/\gQ a 122 (a[11]?=some (.loc 2 0 0)) [(2,.sl 8 (w.map Wnt.enc) wx),(3,.str s),(4,.int .i64 sale),(6,.loc 0 0 0),(7,.loc 1 0 0)]) ?_ ?_
 ·simp only[push_cast,Vn,hal,h2,h3,h4,h6,h7,h11,w0',w6',↓WX,simprocAttr]
 rintro a V ⟨rfl,hal,h2,h3,h4,h6,h7,h11⟩
 cases bc
 ·rw[if_neg (by simp)]at hz
  subst hz
  simp only[push_cast,hal,h2,h11,g2',ccv,Tryz.f14,↓WX,simprocAttr,WY]
 rw[if_pos rfl]at hz
 have hcm:=hcm rfl
 refine Ya (λa V=>(∃J,V=V0++J)/\gQ a 122 (a[11]?=some (.loc 2 0 0)) [(2,.sl 8 (w.map Wnt.enc) wx),(3,.str s),(4,.int .i64 sale),(6,.loc 0 0 0),(7,.loc 1 0 0)]) ?_ ?_
 ·simp only[push_cast,hal,h2,h3,h4,h6,h7,h11,g2',ccv,↓WX,simprocAttr,WY]
  exact⟨_,rfl⟩
 clear g2'
 rintro a V ⟨hJV,hal,h2,h3,h4,h6,h7,h11⟩
 obtain⟨fe,hfe⟩:∃fe,fe=fstE (vfE why amt) q.parts:=⟨_,rfl⟩
 rw[<-hfe]at hz
 refine Za (λa V=>((∃J,V=V0++J)/\fe=0)/\gQ a 122 (a[11]?=some (.loc 2 0 0)) [(2,.sl 8 (w.map Wnt.enc) wx),(3,.str s),(6,.loc 0 0 0),(7,.loc 1 0 0)]) ?_ ?_
 ·simp only[push_cast,↓WX,simprocAttr]
  refine Yk (λi a T=>((∃J,T=V0++J)/\fe=fstE (vfE why amt) (q.parts.drop i))/\a.length=122/\a[2]?=some (.sl 8 (w.map Wnt.enc) wx)/\a[3]?=some (.str s)/\a[4]?=some (.int .i64 sale)/\a[6]?=some (.loc 0 0 0)/\a[7]?=some (.loc 1 0 0)/\a[11]?=some (.loc 2 0 0)/\a[13]?=some (.int .i64 i)) q.parts.length ?_ (by omega) ?_
  ·simp only[push_cast,hal,h2,h3,h4,h6,h7,h11,simprocAttr,WY]
   exact⟨hJV,hfe⟩
  clear hfe hJV
  rintro i a T hi ⟨⟨⟨J,rfl⟩,e⟩,hal,h2,h3,h4,h6,h7,h11,h13⟩
  have e2:=g2 J
  rcases Kw hi with hlt |hie
  case inr=>
   rw[hie,Vj,fstE]at e
   subst hie
   simp only[push_cast,hal,h2,h3,h6,h7,h11,h13,e2,↓WX,simprocAttr,WY]
   exact⟨⟨_,rfl⟩,e⟩
  have hltc:(i:Int)<q.parts.length:=by omega
  obtain⟨x,hx⟩:∃x,q.parts[i]?=some x:=⟨q.parts[i],by simp⟩
  rw[Yu hx,fstE]at e
  obtain⟨x1,x2,x3⟩:=hcm x (Kx hx)
  have cwy:=hwhy x x1 x2 x3
  have cam:=hamt x x1 x2 x3
  rw[show vfE why amt x=(if why x=0 then if (amt x).2=0/\(amt x).1=x.am then 0 else 36 else why x) from rfl]at e
  generalize why x=ew at*
  generalize amt x=am at*
  obtain⟨am,ae⟩:=am
  dsimp only at e cam
  have x1':(0<=x.fr)=True:=eq_true x1
  have x2':(0<=x.to)=True:=eq_true (by omega)
  have x3':(x.fr.toNat<=x.to.toNat/\x.to.toNat<=w.length)=True:=eq_true ⟨by omega,by omega⟩
  refine Ya (λa V=>V=V0++J/\gQ a 122 (a[13]?=some (.int .i64 i)) [(2,.sl 8 (w.map Wnt.enc) wx),(3,.str s),(4,.int .i64 sale),(6,.loc 0 0 0),(7,.loc 1 0 0),(11,.loc 2 0 0)]) ?_ ?_
  ·simp only[push_cast,hal,h2,h3,h4,h6,h7,h11,h13,e2,hltc,↓WX,simprocAttr]
  rintro a V ⟨rfl,hal,h2,h3,h4,h6,h7,h11,h13⟩
  rw[Zx,Yx]
  refine Ya (λa W=>W=(V0++J)++[Ob.row 4 [[.int .i64 x.fr,.int .i64 x.to,.int .i64 x.fa,.int .i64 x.am]]]/\gQ a 122 (a[14]?=some (.loc (V0++J).length 0 0)) [(2,.sl 8 (w.map Wnt.enc) wx),(3,.str s),(4,.int .i64 sale),(6,.loc 0 0 0),(7,.loc 1 0 0),(11,.loc 2 0 0),(13,.int .i64 i)]) ?_ ?_
  ·simp only[push_cast,hal,h2,h3,h4,h6,h7,h11,h13,e2,hx,Yl,Yq,Prt.enc,↓WX,simprocAttr]
  rintro a W ⟨hW,hal,h2,h3,h4,h6,h7,h11,h13,h14⟩
  have gx:W[(V0++J).length]?=some (Ob.row 4 [[.int .i64 x.fr,.int .i64 x.to,.int .i64 x.fa,.int .i64 x.am]]):=by rw[hW];exact Yl
  have hWJ:∃J,W=V0++J:=⟨J++[Ob.row 4 [[.int .i64 x.fr,.int .i64 x.to,.int .i64 x.fa,.int .i64 x.am]]],by rw[hW,Vg]⟩
  generalize (V0++J).length=kx at*
  clear hW e2
  obtain⟨J',rfl⟩:=hWJ
  have f0:=g0 J'
  have f1:=g1 J'
  have f2:=g2 J'
  refine Ya (λa U=>U=V0++J'/\gQ a 122 (a[15]?=some (.int .i64 ew)) [(2,.sl 8 (w.map Wnt.enc) wx),(3,.str s),(4,.int .i64 sale),(6,.loc 0 0 0),(7,.loc 1 0 0),(11,.loc 2 0 0),(13,.int .i64 i),(14,.loc kx 0 0)]) ?_ ?_
  ·simp only[push_cast,hal,h2,h3,h4,h6,h7,h11,h13,h14,f0,f1,gx,x1',x2',x3',cwy,↓WX,simprocAttr]
  rintro a U ⟨rfl,hal,h2,h3,h4,h6,h7,h11,h13,h14,h15⟩
  by_cases c1:ew=0
  case neg=>
   rw[if_neg c1,if_neg c1]at e
   subst e
   rw[if_neg c1]at hz
   subst hz
   simp only[push_cast,Vo,hal,h15,c1,Tryz.f14,↓WX,simprocAttr,WY]
  rw[if_pos c1]at e
  subst c1
  by_cases c2:ae=0
  case neg=>
   have hno:¬(ae=0/\am=x.am):=λh=>c2 h.1
   rw[if_neg hno]at e
   have e:fe=36:=e
   subst e
   simp only[Int.reduceEq,if_false]at hz
   subst hz
   simp only[push_cast,Vp,Vo,hal,h2,h3,h6,h7,h14,h15,f0,f1,gx,x1',x2',x3',cam,c2,Tryz.f14,↓WX,simprocAttr,WY]
  subst c2
  by_cases c3:am=x.am
  case neg=>
   have hno:¬((0:Int)=0/\am=x.am):=λh=>c3 h.2
   rw[if_neg hno]at e
   have e:fe=36:=e
   subst e
   simp only[Int.reduceEq,if_false]at hz
   subst hz
   simp only[push_cast,Vp,Vo,hal,h2,h3,h6,h7,h14,h15,f0,f1,gx,x1',x2',x3',cam,c3,Tryz.f14,↓WX,simprocAttr,WY]
  have hyes:(0:Int)=0/\am=x.am:=⟨rfl,c3⟩
  rw[if_pos hyes,if_pos rfl]at e
  subst c3
  simp(disch:=omega)only[push_cast,Vp,hal,h2,h3,h4,h6,h7,h11,h13,h14,h15,f0,f1,gx,x1',x2',x3',cam,hlt,Yf,↓WX,simprocAttr,WY]
  exact⟨⟨_,rfl⟩,e⟩
 clear hJV hfe
 rintro a V ⟨⟨⟨J,rfl⟩,rfl⟩,hal,h2,h3,h6,h7,h11⟩
 rw[if_pos rfl]at hz
 have f0:=g0 J
 have f1:=g1 J
 have f2:=g2 J
 refine Ya (λa V=>V=V0++J/\gQ a 122 (a[18]?=some (.int .i64 ck)) [(2,.sl 8 (w.map Wnt.enc) wx),(3,.str s),(6,.loc 0 0 0),(7,.loc 1 0 0),(11,.loc 2 0 0)]) ?_ ?_
 ·simp only[push_cast,hal,h2,h3,h6,h7,h11,f0,f1,f2,cck,↓WX,simprocAttr]
 rintro a V ⟨rfl,hal,h2,h3,h6,h7,h11,h18⟩
 by_cases c1:ck=0
 case neg=>
  rw[if_neg c1]at hz
  subst hz
  simp only[push_cast,Vo,hal,h18,c1,Tryz.f14,↓WX,simprocAttr]
 rw[if_pos c1]at hz
 subst c1
 refine Ya (λa V=>V=V0++J/\gQ a 122 (a[11]?=some (.loc 2 0 0)) [(2,.sl 8 (w.map Wnt.enc) wx),(3,.str s),(6,.loc 0 0 0),(7,.loc 1 0 0)]) ?_ ?_
 ·simp only[push_cast,Vp,hal,h2,h3,h6,h7,h11,h18,↓WX,simprocAttr]
 rintro a V ⟨rfl,hal,h2,h3,h6,h7,h11⟩
 obtain⟨r,T',hso,⟨J2,rfl⟩,hm⟩:=csu (V0++J)
 have hso:=λst=>cgenT (st:=st) rfl hso
 cases hsm:sumsF pct p t w s q.parts with
 |none=>
  rw[hsm]at hm hz
  dsimp only at hm hz
  obtain⟨_,rfl,rfl⟩:=hm
  subst hz
  simp only[push_cast,hal,h2,h3,h6,h7,h11,f0,f1,f2,hso,Yl,Yq,Tryz.f14,↓WX,simprocAttr,WY]
 |some y=>
  rw[hsm]at hm hz
  dsimp only at hm hz
  obtain⟨dt,rfl,hdt⟩:=hm
  have odt:=Yv hdt
  have odp:=Yv hdp
  simp only[D.one]at odt odp
  have opd:dp.cells=[dp]:=by rcases hdp with ⟨rfl,-⟩ | ⟨x,rfl⟩ <;> rfl
  simp only[D.cells]at opd
  have f1':=g1 (J++J2)
  have f2':=g2 (J++J2)
  have cse:=RSame_x (n:=n+2) (wantF y (Xq t q.parts).1 q.parts) q hqf hdp hdt hqf (.inr ⟨q.qx,rfl⟩) (.inr ⟨q.tx,rfl⟩) (by show q.parts.length<=_;omega) (by have:=pairsF_len (t:=t) (l:=q.parts);show (Xq t q.parts).1.length<=_;omega) (by have:=sumsF_len hsm;show y.2.1.length<=_;omega) (by omega)
  generalize sameF (wantF y (Xq t q.parts).1 q.parts) q=bs at*
  simp only[wantF]at cse
  obtain⟨y1,y2,y3⟩:=y
  dsimp only at*
  rw[<-Vg]at f1' f2'
  generalize V0++J++J2=V1 at*
  refine Ya (λa U=>U=V1++[Ob.row 5 [[.sl 4 (q.parts.map Prt.enc) q.px,.nils,dt,.int .i64 y1,.int .i64 y3]]]/\gQ a 122 (a[20]?=some (.bool true)) [(7,.loc 1 0 0),(11,.loc 2 0 0),(19,.loc V1.length 0 0)]) ?_ ?_
  ·simp only[push_cast,hal,h2,h3,h6,h7,h11,f0,f1,f2,hso,odt,Yl,Yq,↓WX,simprocAttr]
  rintro a U ⟨hU,hal,h7,h11,h19,h20⟩
  have gq:U[V1.length]?=some (Ob.row 5 [[.sl 4 (q.parts.map Prt.enc) q.px,.nils,dt,.int .i64 y1,.int .i64 y3]]):=by rw[hU];exact Yl
  have u1:U[1]?=some (Ob.row 4 [[.sl 9 (t.fares.map Far.enc) t.fx,.sl 15 (t.rules.map Rul.enc) t.rx,.sl 3 (t.rous.map Rou.enc) t.ox,.sl 7 (t.taxes.map Tx.enc) t.tx]]):=by rw[hU];exact Ym f1'
  have u2:U[2]?=some (Ob.row 5 [[.sl 4 (q.parts.map Prt.enc) q.px,.sl 2 (q.pairs.map Xa) q.qx,.sl 2 (q.taxes.map Jf) q.tx,.int .i64 q.fare,.int .i64 q.total]]):=by rw[hU];exact Ym f2'
  have hUl:V1.length<U.length:=by rw[hU,Ku];exact Nat.lt_succ_self _
  have hV2:(V1.length=2)=False:=eq_false (λh=>by have:=(Kr.1 f2').1;omega)
  generalize V1.length=kq at*
  clear hU
  cases bs
  ·rw[if_neg (by simp)]at hz
   subst hz
   simp only[push_cast,hal,h7,h11,h19,h20,u1,u2,gq,hUl,hV2,cpa,cse,opd,odp,List.all_cons,List.all_nil,Uu,Tryz.f14,↓WX,simprocAttr,WY]
  ·rw[if_pos rfl]at hz
   subst hz
   simp only[push_cast,hal,h7,h11,h19,h20,u1,u2,gq,hUl,hV2,cpa,cse,opd,odp,List.all_cons,List.all_nil,Uu,Tryz.f14,↓WX,simprocAttr,WY]
end
def farsF (W:Nat->Nat->Int->Int) (A:Nat->Nat->Int->Int×Int) (nf i k:Nat):List (Int×Int):=
 (List.range nf).filterMap λ(f:Nat)=>if W i k (f:Int)=0/\(A i k (f:Int)).2=0 then some ((f:Int),(A i k (f:Int)).1) else none
def lstS (L:Nat->Option Int) (o:Option Int) (x:Prt):Option Int:=
 match L x.to.toNat with
 |none=>o
 |some r=>match o with
  |none=>some (x.am+r)
  |some b=>if x.am+r<b then some (x.am+r) else some b
def lstF (opts:Nat->List Prt) (n:Nat):Nat->Nat->Option Int
 |0,i=>if i=n then some 0 else none
 |k+1,i=>if i=n then some 0 else (opts i).foldl (lstS (lstF opts n k)) none
def prcF (pct:Int->Int->Int×Int) (p:Plc) (t:Trf) (w:List Wnt) (s:ByteArray) (l:List Prt):Option Quo:=
 if (Xq t l).2=0 then match sumsF pct p t w s l with
  |none=>none
  |some z=>some (wantF z (Xq t l).1 l)
 else none
structure PctOk (pct:Int->Int->Int×Int):Prop where
 pos:∀f a,0<=f->f<=1099511627776->0<=a->a<=1099511627776->(pct f a).2=0->0<=(pct f a).1
 mono:∀f g a,0<=f->f<=g->g<=1099511627776->0<=a->a<=1099511627776->(pct f a).2=0->(pct g a).2=0->(pct f a).1<=(pct g a).1
def smC:List (ByteArray×Int)->Int
 | []=>0
 |x::xs=>x.2+smC xs
def axS (pct:Int->Int->Int×Int) (p:Plc) (w:List Wnt) (s:ByteArray) (f:Int):List Tx->Int
 | []=>0
 |x::xs=>(axF pct (timF p x w s) x f).1+axS pct p w s f xs
theorem timF_le (p:Plc) (x:Tx) (l:List Wnt) (s:ByteArray):timF p x l s<=l.length:=by
 have:=sumD_le p x none l
 unfold timF
 repeat' split
 all_goals omega
theorem axF_pos {pct:Int->Int->Int×Int} (hp:PctOk pct) {p:Plc} {x:Tx} {w:List Wnt} {s:ByteArray} {f:Int} (hw:w.length<=900) (hf:0<=f/\f<=1099511627776) (hx:0<=x.amount/\x.amount<=1099511627776) (he:(axF pct (timF p x w s) x f).2=0):0<=(axF pct (timF p x w s) x f).1:=by
 have ht:=timF_le p x w s
 unfold axF at he ⊢
 split
 ·rename_i c
  rw[if_pos c]at he
  exact hp.pos f x.amount hf.1 hf.2 hx.1 hx.2 he
 ·have h1:((timF p x w s:Nat):Int)*x.amount<=900*1099511627776:=Int.mul_le_mul (by omega) hx.2 hx.1 (by omega)
  have h2:0<=((timF p x w s:Nat):Int)*x.amount:=Int.mul_nonneg (by omega) hx.1
  show 0<=IntKind.i64.wrap _
  rw[Yf (by omega) (by omega)]
  exact h2
def sm:List Int->Int
 | []=>0
 |x::xs=>x+sm xs
theorem taxF_pos {pct:Int->Int->Int×Int} (hp:PctOk pct) {p:Plc} {w:List Wnt} {s:ByteArray} (hw:w.length<=900) {f:Int} (hf:0<=f/\f<=1099511627776):∀(l:List Tx) (acc:List (ByteArray×Int)),(∀x∈l,0<=x.amount/\x.amount<=1099511627776)->(∀c∈acc,0<=c.2)->∀c∈(taxF pct p w s f l acc).1,0<=c.2
 | [],acc,_,ha,c,hc=>ha c hc
 |x::xs,acc,h,ha,c,hc=>by
  rw[taxF]at hc
  split at hc
  ·rename_i e
   split at hc
   ·cases hc
   ·split at hc
    ·exact taxF_pos hp hw hf xs acc (λy hy=>h y (Um _ hy)) ha c hc
    ·refine taxF_pos hp hw hf xs _ (λy hy=>h y (Um _ hy)) (λd hd=>?_) c hc
     rcases List.mem_append.1 hd with hd |hd
     ·exact ha d hd
     ·obtain rfl:=List.mem_singleton.1 hd
      exact axF_pos hp hw hf (h x (Uo ..)) e
  ·cases hc
end Go.Proofs.YtaklebjoenophaaGreat.Dm
