/-
  What plain data of a type are: words for structs, and for slices of them.
  Whether a condition holds, and whether a rule allows a trip: the reference, exactly.
  Local times, and what is known of a trip: the reference, exactly.
  What is known of a trip: the reference, exactly.
  Why a fare does not apply: the reference answers.
  Round trips of a journey: the reference, exactly.
  The pairs of a journey: the reference, exactly.
  Whether fares combine: the reference, exactly.
  The stays of round trips, and whether components make up a journey: the reference, exactly.
  Whether the components of a journey can be combined as a whole: the reference, exactly.
  Taxes: how often one is due, and what they come to: the reference, exactly (but for the percentage, which is a function).
  Prices: which are equal, by the program and by the reference.
  The plain law of the order of prices: of two different valid prices just one is better.
  The example of the prices holds: a closed run.
-/
import Derived.Test.YtaklebjoenophaaGreatEval
import Derived.Test.YtaklebjoenophaaGreatTv
import Derived.Test.YtaklebjoenophaaGreatTod
import Derived.Test.YtaklebjoenophaaGreatPoH
import Derived.Test.YtaklebjoenophaaGreatRuB
import Derived.Test.YtaklebjoenophaaGreatPoA
import Derived.Test.YtaklebjoenophaaGreatGw
set_option linter.unusedSimpArgs false
set_option linter.unusedVariables false
namespace Go.Proofs.YtaklebjoenophaaGreat
open Go Dm Go.RowKit
theorem int_bd {n:Int} (h:(Lit.int .i64 n).wf=true): -9223372036854775808<=n/\n<=9223372036854775807:=by
 unfold Lit.wf at h
 rw[Ye,Yy,Yy]at h
 exact h
def CellR (e e':List D):Prop:=e'.length=e.length/\∀(j:Nat) (c c':D),e[j]?=some c->e'[j]?=some c'->c'.one=true/\∀W C u,VR W C c u->VR W C c' u
theorem nils_sl {W:World} {C:Cx} {v:Value} {sz:Nat} (h:VR W C .nils v):VR W C (.sl sz [] true) v:=by
 cases h
 exact .sl0 (λ_=>rfl)
theorem VR.sl_rel {W:World} {C:Cx} {sz:Nat} {es es':List (List D)} {x:Bool} {v:Value} (h:VR W C (.sl sz es x) v) (hl:es'.length=es.length) (hr:∀(j:Nat) (e e':List D),es[j]?=some e->es'[j]?=some e'->CellR e e'):VR W C (.sl sz es' x) v:=by
 have at':∀ {j:Nat} {e':List D},es'[j]?=some e'->∃e,es[j]?=some e:=λ{j e'} h=>by
  have hj:=(Ya.1 h).1
  exact⟨es[j]'(by omega),Yq (by omega)⟩
 have cell:∀ {e e':List D} {j:Nat} {c':D},CellR e e'->e'[j]?=some c'->∃c,e[j]?=some c:=λ{e e' j c'} h k=>by
  have hj:=(Ya.1 k).1
  exact⟨e[j]'(by rw[<-h.1];exact hj),Yq (by rw[<-h.1];exact hj)⟩
 cases h with
 |sl vs hp hg hcap hx hs hc ho hv=>
  rw[<-hl]at hp hcap hx hc ⊢
  refine .sl vs hp hg hcap hx (λi e' he'=>?_) hc (λi j e' c' he' hc'=>?_) (λi j e' c' he' hc'=>?_)
  ·obtain⟨e,he⟩:=at' he'
   rw[(hr i e e' he he').1];exact hs i e he
  ·obtain⟨e,he⟩:=at' he'
   obtain⟨c,hc⟩:=cell (hr i e e' he he') hc'
   exact ((hr i e e' he he').2 j c c' hc hc').1
  ·obtain⟨e,he⟩:=at' he'
   obtain⟨c,hc⟩:=cell (hr i e e' he he') hc'
   exact ((hr i e e' he he').2 j c c' hc hc').2 _ _ _ (hv i j e c he hc)
 |sl0 hx=>
  have:es'=[]:=Yp (by simpa using hl)
  subst this
  exact .sl0 hx
theorem CellR.refl {c:List D} (h:∀d∈c,d.one=true):CellR c c:=⟨rfl,λj x y hx hy=>by
 rw[hx]at hy
 cases hy
 exact⟨h _ (Yg hx),λ_ _ _ h=>h⟩⟩
theorem agg_rel {W:World} {C:Cx} {c c':List D} {v:Value} (hr:CellR c c') (h:VR W C (.agg c) v):VR W C (.agg c') v:=by
 obtain⟨vs,rfl,hv⟩:=h.of_agg
 have:VRs W C c' vs.toList:=⟨hr.1.trans hv.1,λj d u hd hu=>by
  have hj:=(Ya.1 hd).1
  obtain⟨c0,hc0⟩:∃c0,c[j]?=some c0:=⟨c[j]'(by rw[<-hr.1];exact hj),Yq (by rw[<-hr.1];exact hj)⟩
  exact (hr.2 j c0 d hc0 hd).2 _ _ _ (hv.2 j c0 u hc0 hu)⟩
 have:=VR.agg_of this
 simpa using this
end Go.Proofs.YtaklebjoenophaaGreat
namespace Go.Proofs.YtaklebjoenophaaGreat.Dm
open Go Gw
def alwF (o:Option Rul) (t:Trp):Int:=match o with |none=>20 |some r=>if hol t r.when=true then 0 else 20
section
variable {n : Nat}
end
def ofsF (u:Int):Int->List Shf->Int
 |q,[]=>q
 |q,x::xs=>ofsF u (if x.tm<=u then x.off else q) xs
def zofs (o:Option Apt):Int:=match o with |none=>0 |some a=>a.off
def zshs (o:Option Apt):List Shf:=match o with |none=>[] |some a=>a.sh
def zshD (o:Option Apt):D:=match o with |none=>.nils |some a=>.sl 2 (a.sh.map Shf.enc) a.shx
theorem zsh_fls (o:Option Apt):FLs 2 Shf.enc (zshD o) (zshs o):=by
 cases o with
 |none=>exact .inl ⟨rfl,rfl⟩
 |some a=>exact .inr ⟨_,rfl⟩
def locF (o:Option Apt) (u:Int):Int:=IntKind.i64.wrap (u+ofsF u (zofs o) (zshs o))
def dayF (x:Int):Int:=if x.tmod 1440<0 then IntKind.i64.wrap (IntKind.i64.wrap (x.tdiv 1440)-1) else IntKind.i64.wrap (x.tdiv 1440)
def mntF (x:Int):Int:=if x.tmod 1440<0 then IntKind.i64.wrap (x.tmod 1440+1440) else x.tmod 1440
def stpN:List Wnt->Nat
 |a::b::r=>(if 1440<=IntKind.i64.wrap (b.dep-a.arr) then 1 else 0)+stpN (b::r)
 |_=>0
theorem GL.flsN {α:Type} {sz:Nat} {enc:α->List D} {S:List Ob} {d:D} {l:List α} (h:GL sz enc S d l) (hp:pureLL (l.map enc)=true) (m:Nat):∃d',freeze S (m+2) d=some d'/\FLs sz enc d' l:=by
 rcases h with ⟨rfl,rfl⟩ | ⟨k,rfl,hk⟩
 ·exact⟨_,rfl,.inl ⟨rfl,rfl⟩⟩
 ·have:=freeze_os (n:=m) (x:=false) hk hp
  rw[Yz]at this
  exact⟨_,this,.inr ⟨_,rfl⟩⟩
def Apart (d e:D):Prop:=∀k n k' n',d=.os k 0 n false->e=.os k' 0 n' false->k≠k'
theorem GL.keep {α:Type} {sz:Nat} {enc:α->List D} {S T:List Ob} {d:D} {l:List α} (h:GL sz enc S d l) (g:∀k n,d=.os k 0 n false->∀o,S[k]?=some o->T[k]?=some o):GL sz enc T d l:=by
 rcases h with h | ⟨k,h1,h2⟩
 ·exact .inl h
 ·exact .inr ⟨k,h1,g k _ h1 _ h2⟩
section
variable {n : Nat}
end
theorem GL.one {α:Type} {sz:Nat} {enc:α->List D} {S:List Ob} {d:D} {l:List α} (h:GL sz enc S d l):d.one=true:=by
 rcases h with ⟨rfl,-⟩ | ⟨k,rfl,-⟩ <;> rfl
theorem GL.sets {α:Type} {sz z k:Nat} {enc:α->List D} {S:List Ob} {d:D} {l:List α} {r:List (List D)} (h:GL sz enc S d l) (hk:S[k]?=some (.row z r)) (hz:z≠sz) (o:Ob):GL sz enc (S.set k o) d l:=by
 refine h.keep λj n hj o' ho=>?_
 rcases h with ⟨h,-⟩ | ⟨i,h,hi⟩
 ·rw[h]at hj
  cases hj
 ·rw[h]at hj
  obtain⟨rfl,-⟩:=D.os.inj hj
  have hne:k≠i:=λe=>by
   subst e
   rw[hk]at hi
   injection hi with hi
   injection hi with hi _
   exact hz hi
  rw[Yc hne]
  exact ho
section
variable {n : Nat}
theorem freeze_agg9 {T:List Ob} {a:ByteArray} {b c d e f:Int} {x y z x' y' z':D} (fx:freeze T 39 x=some x') (fy:freeze T 39 y=some y') (fz:freeze T 39 z=some z'):freeze T 40 (.agg [.str a,.int .i64 b,.int .i64 c,.int .i64 d,.int .i64 e,.int .i64 f,x,y,z])=some (.agg [.str a,.int .i64 b,.int .i64 c,.int .i64 d,.int .i64 e,.int .i64 f,x',y',z']):=by
 have s1:∀t,freeze T 39 (.str t)=some (.str t):=λ_=>rfl
 have s2:∀t,freeze T 39 (.int .i64 t)=some (.int .i64 t):=λ_=>rfl
 rw[show (40:Nat)=39+1 from rfl,freeze]
 simp only[mapO,s1,s2,fx,fy,fz,Zw]
 split
 ·rename_i h
  simp only[D.pure,pureL_cons,pureL_nil,Yj,Ye,WY]at h
  obtain⟨h1,h2,h3⟩:=h
  obtain rfl:=Yi ((freeze_pure h1).symm.trans fx)
  obtain rfl:=Yi ((freeze_pure h2).symm.trans fy)
  obtain rfl:=Yi ((freeze_pure h3).symm.trans fz)
  rfl
 ·rfl
theorem freeze_tup2 {T:List Ob} {x x':D} {v:Int} (fx:freeze T 39 x=some x'):freeze T 40 (.tup [x,.int .i64 v])=some (.tup [x',.int .i64 v]):=by
 have s2:∀t,freeze T 39 (.int .i64 t)=some (.int .i64 t):=λ_=>rfl
 rw[show (40:Nat)=39+1 from rfl,freeze]
 simp only[mapO,s2,fx,Zw]
 split
 ·rename_i h
  simp only[D.pure,pureL_cons,pureL_nil,Yj,Ye,WY]at h
  obtain rfl:=Yi ((freeze_pure h).symm.trans fx)
  rfl
 ·rfl
end
theorem wc_rcut {E:Env} {call:Call} {n:Nat} {x y:Code} {a:List D} {S:List Ob} {Q:PostX} (P:List D->List Ob->Prop) (h:WC (codeD E call n x a S) λr a S=>(r=.normal/\P a S)∨(r=.ret/\Q .ret a S)) (k:∀a S,P a S->WC (codeD E call n y a S) Q):
  WC (codeD E call n (.seq x y) a S) Q:=by
 rw[wc_seq]
 refine wc_mono h ?_
 rintro r a S (⟨rfl,hp⟩ | ⟨rfl,hq⟩)
 ·exact k a S hp
 ·exact hq
section
variable {n : Nat}
end
def LQ {α:Type} (sz:Nat) (enc:α->List D) (S:List Ob) (d:D) (l:List α):Prop:=(d=.nils/\l=[])∨(∃x,d=.sl sz (l.map enc) x/\∀J:List Ob,(J++S)[(J++S).length]?=none)∨∃k,d=.os k 0 l.length false/\∀J,(S++J)[k]?=some (.row sz (l.map enc))
section
variable {α : Type} {sz : Nat} {enc : α -> List D} {S T : List Ob} {d : D} {l : List α}
theorem FLs.lq (h:FLs sz enc d l):LQ sz enc S d l:=h.elim .inl λ⟨x,h⟩=>.inr (.inl ⟨x,h,λ_=>List.getElem?_eq_none (Yt _)⟩)
theorem GL.lq (h:GL sz enc S d l):LQ sz enc S d l:=h.elim .inl λ⟨k,h,g⟩=>.inr (.inr ⟨k,h,λ_=>get_old g⟩)
theorem LQ.ext (h:LQ sz enc S d l) (g:ExtS S T):LQ sz enc T d l:=by
 rcases h with h | ⟨x,h,-⟩ | ⟨k,h,hk⟩
 ·exact .inl h
 ·exact FLs.lq (.inr ⟨x,h⟩)
 ·exact .inr (.inr ⟨k,h,λJ=>get_old (g _ _ (by have:=hk [];rwa [Za]at this))⟩)
theorem lq_len {t e:TypeId} (ht:Tryz.prog.underlying t=some (.slice e)) (h:LQ sz enc S d l) (T:List Ob):dLen Tryz.prog T t d=some (.int .i64 l.length):=by
 unfold dLen
 rw[ht]
 rcases h with ⟨rfl,rfl⟩ | ⟨x,rfl,-⟩ | ⟨k,rfl,-⟩
 ·rfl
 ·dsimp only
  rw[Yz]
 ·rfl
theorem LQ.one (h:LQ sz enc S d l):d.one=true:=by
 rcases h with ⟨rfl,-⟩ | ⟨x,rfl,-⟩ | ⟨k,rfl,-⟩ <;> rfl
theorem extS_app {J:List Ob}:ExtS S (S++J):=λ_ _ h=>get_old h
theorem obs_q {n:Nat} {f:FuncId} {A:D->List D} {v:D} (hm:E.mode f=.obs) (hp:pureLL (l.map enc)=true) (hv:v.pure=true) (hA:∀d,d.pure=true->pureL (A d)=true) (hB:∀k n,pureL (A (.os k 0 n false))=false) (h:∀S,LQ sz enc S d l->WO (dcall E n f (A d) S) λr T=>r=v/\∃J,T=S++J) (hl:LQ sz enc S d l):∀st,callD E (dcall E n) st S f (A d)=some (v,S):=by
 intro st
 rcases hl with h0 | ⟨x,h0,h1⟩ | ⟨k,h0,h1⟩
 ·obtain⟨_,_,ho,rfl,J,rfl⟩:=h [] (.inl h0)
  exact callD_obsP hm (hA _ (by rw[h0.1];rfl)) ho (freeze_pure hv)
 ·obtain⟨_,_,ho,rfl,J,rfl⟩:=h [] (FLs.lq (.inr ⟨x,h0⟩))
  exact callD_obsP hm (hA _ (by rw[h0];simp only[D.pure,hp])) ho (freeze_pure hv)
 ·obtain⟨_,_,ho,rfl,J,rfl⟩:=h S (.inr (.inr ⟨k,h0,h1⟩))
  exact callD_obsJ hm (by rw[h0];exact hB _ _) ho hv
end
def zeFar:Far:=⟨ByteArray.mk #[],ByteArray.mk #[],ByteArray.mk #[],ByteArray.mk #[],ByteArray.mk #[],false,0,0,0⟩
def farF (t:Trf) (x:Prt):Far:=(t.fares[x.fa.toNat]?).getD zeFar
def knoF (t:Trf) (x:Prt):Bool:= !(decide (x.fa<0) || decide (x.fa>=t.fares.length))
def prdF (ps:List (Int×Int)) (i:Int):Bool:=ps.any λp=>decide (p.1=i) || decide (p.2=i)
def rtnF (a b:Far):Bool:=a.rnd && (b.rnd && (decide (a.car=b.car) && (decide (a.frm=b.dst) && decide (a.dst=b.frm))))
def prtF (t:Trf) (ps:List (Int×Int)) (a:Far):Nat->List Prt->Int
 |_,[]=> -1
 |k,y::ys=>if (!prdF ps k && rtnF a (farF t y))=true then (k:Int) else prtF t ps a (k+1) ys
def prsF (t:Trf):Nat->List Prt->List (Int×Int)->Option (List (Int×Int))
 |_,[],ps=>some ps
 |i,x::xs,ps=>if (!(farF t x).rnd || prdF ps i)=true then prsF t (i+1) xs ps else if prtF t ps (farF t x) (i+1) xs<0 then none else prsF t (i+1) xs (ps++[((i:Int),prtF t ps (farF t x) (i+1) xs)])
def pairsF (t:Trf) (l:List Prt):List (Int×Int)×Int:=if l.all (knoF t)=true then match prsF t 0 l [] with |some ps=>(ps,0) |none=>([],23) else ([],19)
theorem knoF_far {t:Trf} {x:Prt} (h:knoF t x=true):0<=x.fa/\x.fa.toNat<t.fares.length/\t.fares[x.fa.toNat]?=some (farF t x):=by
 unfold knoF at h
 simp only[Bool.not_eq_true',Bool.or_eq_false_iff,decide_eq_false_iff_not]at h
 have hl:x.fa.toNat<t.fares.length:=by omega
 refine⟨by omega,hl,?_⟩
 unfold farF
 rw[Yq hl]
 rfl
section
variable {n : Nat}
end
section
variable {α : Type} {sz : Nat} {enc : α -> List D} {S T : List Ob} {d : D} {l : List α}
theorem LQ.pure0 (h:LQ sz enc S d l) (hp:d.pure=true):FLs sz enc d l:=by
 rcases h with h | ⟨x,h,-⟩ | ⟨k,rfl,-⟩
 ·exact .inl h
 ·exact .inr ⟨x,h⟩
 ·cases hp
theorem extS_pre (h:ExtS S T):∃J,T=S++J:=by
 refine⟨T.drop S.length,?_⟩
 apply List.ext_getElem?
 intro i
 by_cases e:i<S.length
 ·rw[Zc e,h i S[i] (Yq e),Yq e]
 ·rw[Zq (by omega),List.getElem?_drop]
  congr 1
  omega
end
theorem prtF_bound {t:Trf} {ps:List (Int×Int)} {a:Far}:∀ {l:List Prt} {k:Nat},prtF t ps a k l<0∨((k:Int)<=prtF t ps a k l/\prtF t ps a k l<k+l.length)
 | [],k=>.inl (by unfold prtF;omega)
 |y::ys,k=>by
  unfold prtF
  split
  ·right
   rw[Zd]
   omega
  ·rcases prtF_bound (t:=t) (ps:=ps) (a:=a) (l:=ys) (k:=k+1) with h |h
   ·exact .inl h
   ·right
    rw[Zd]
    omega
section
variable {n : Nat}
end
def rulF (t:Trf) (x:Prt):Option Rul:=t.rules.find? λr=>decide (r.num=(farF t x).rul)
def mxF {α:Type} (f:α->α->Bool):List α->List α->Bool
 |_,[]=>true
 |ys,x::xs=>(ys.all λy=>f x y) && mxF f (ys++[x]) xs
def mixedF (t:Trf) (l:List Prt):Int:=if l.all (knoF t)=true then if mxF (λx y=>mix2F (rulF t x) (rulF t y)) [] l=true then 0 else 23 else 19
def dpF (p:Plc) (w:Wnt):Int×Int:=match p.aps.find? λa=>a.code.toList == w.fr.toList with
 |none=>(0,14)
 |some a=>(dayF (locF (some a) w.dep),0)
def zeWnt:Wnt:=⟨ByteArray.mk #[],0,0,ByteArray.mk #[],ByteArray.mk #[],0,0,ByteArray.mk #[]⟩
def wntF (w:List Wnt) (x:Prt):Wnt:=(w[x.fr.toNat]?).getD zeWnt
def styF (p:Plc) (t:Trf) (w:List Wnt) (a b:Prt):Int:=
 if (dpF p (wntF w a)).2=0/\(dpF p (wntF w b)).2=0 then
  if stayR (rulF t a) (dpF p (wntF w a)).1 (dpF p (wntF w b)).1=0 then stayR (rulF t b) (dpF p (wntF w a)).1 (dpF p (wntF w b)).1 else stayR (rulF t a) (dpF p (wntF w a)).1 (dpF p (wntF w b)).1
 else 14
def fstE {α:Type} (f:α->Int):List α->Int
 | []=>0
 |x::xs=>if f x=0 then fstE f xs else f x
def zePrt:Prt:=⟨0,0,0,0⟩
def prtAt (l:List Prt) (i:Int):Prt:=(l[i.toNat]?).getD zePrt
def frOk (w:List Wnt) (x:Prt):Bool:= !(decide (x.fr<0) || decide (x.fr>=w.length))
def staysF (p:Plc) (t:Trf) (w:List Wnt) (l:List Prt):Int:=if l.all (frOk w)=true then if (pairsF t l).2=0 then fstE (λq:Int×Int=>styF p t w (prtAt l q.1) (prtAt l q.2)) (pairsF t l).1 else (pairsF t l).2 else 2
def whF:List Prt->Int->Option Int
 | [],k=>some k
 |x::xs,k=>if (!decide (x.fr=k) || decide (x.to<=k))=true then none else whF xs x.to
def wholeF (w:List Wnt) (l:List Prt):Bool:=match whF l 0 with |some k=>decide ((l.length:Int)>0) && decide (k=w.length) |none=>false
def checkF (p:Plc) (t:Trf) (w:List Wnt) (l:List Prt):Int:=if wholeF w l=true then if (pairsF t l).2=0 then if mixedF t l=0 then staysF p t w l else mixedF t l else (pairsF t l).2 else 2
theorem prsF_mem {t:Trf}:∀ {l:List Prt} {i:Nat} {ps qs:List (Int×Int)},prsF t i l ps=some qs->(∀q∈ps,0<=q.1/\q.1<i+l.length/\0<=q.2/\q.2<i+l.length)->∀q∈qs,0<=q.1/\q.1<i+l.length/\0<=q.2/\q.2<i+l.length
 | [],i,ps,qs,h,g=>by
  unfold prsF at h
  obtain rfl:=Yi h
  exact g
 |x::xs,i,ps,qs,h,g=>by
  unfold prsF at h
  have e:((i:Int)+((x::xs).length:Nat))=((i+1:Nat):Int)+(xs.length:Nat):=by rw[Zd];omega
  rw[e]at g ⊢
  split at h
  ·exact prsF_mem h g
  ·split at h
   ·cases h
   ·rename_i c
    refine prsF_mem h λq hq=>?_
    rcases List.mem_append.1 hq with hq |hq
    ·exact g q hq
    ·obtain rfl:q=((i:Int),prtF t ps (farF t x) (i+1) xs):=by simpa using hq
     rcases prtF_bound (t:=t) (ps:=ps) (a:=farF t x) (l:=xs) (k:=i+1) with b |b
     ·exact (c b).elim
     ·dsimp only
      omega
theorem pairsF_mem {t:Trf} {l:List Prt}:∀q∈(pairsF t l).1,0<=q.1/\q.1<l.length/\0<=q.2/\q.2<l.length:=by
 intro q hq
 unfold pairsF at hq
 split at hq
 ·cases e:prsF t 0 l [] with
  |none=>rw[e]at hq;cases hq
  |some ps=>
   rw[e]at hq
   have:=prsF_mem e (λq h=>by cases h) q hq
   simpa using this
 ·cases hq
theorem pairsF_len {t:Trf} {l:List Prt}:(pairsF t l).1.length<=l.length:=by
 have key:∀(l:List Prt) (i:Nat) (ps qs:List (Int×Int)),prsF t i l ps=some qs->qs.length<=ps.length+l.length:=by
  intro l
  induction l with
  |nil=>intro i ps qs h;unfold prsF at h;obtain rfl:=Yi h;simp
  |cons x xs ih=>
   intro i ps qs h
   unfold prsF at h
   rw[Zd]
   split at h
   ·have:=ih _ _ _ h;omega
   ·split at h
    ·cases h
    ·have:=ih _ _ _ h
     rw[Yd,List.length_singleton]at this
     omega
 unfold pairsF
 split
 ·cases e:prsF t 0 l [] with
  |none=>exact Xb _
  |some ps=>have:=key _ _ _ _ e;simpa using this
 ·exact Xb _
theorem pairsF_kno {t:Trf} {l:List Prt} (h:(pairsF t l).2=0):∀x∈l,knoF t x=true:=by
 unfold pairsF at h
 split at h
 ·rename_i c
  exact List.all_eq_true.1 c
 ·cases h
section
variable {n : Nat}
theorem mxF_all {α:Type} {f:α->α->Bool} {ys:List α} {x:α} (h:∀y∈ys,f x y=true) (xs:List α):mxF f ys (x::xs)=mxF f (ys++[x]) xs:=by
 rw[mxF,List.all_eq_true.2 h,Bool.true_and]
theorem mxF_no {α:Type} {f:α->α->Bool} {ys:List α} {x y:α} (hy:y∈ys) (h:f x y=false) (xs:List α):mxF f ys (x::xs)=false:=by
 rw[mxF]
 have:(ys.all λy=>f x y)=false:=by
  rw[List.all_eq_false]
  exact⟨y,hy,by rw[h];simp⟩
 rw[this,Bool.false_and]
end
def Wnt.seg (w:Wnt):List D:=[.str w.car,.int .i64 w.num,.int .i64 w.day,.str w.fr,.str w.to,.int .i64 w.dep,.int .i64 w.arr]
theorem frOk_at {w:List Wnt} {x:Prt} (h:frOk w x=true):0<=x.fr/\x.fr.toNat<w.length/\w[x.fr.toNat]?=some (wntF w x):=by
 unfold frOk at h
 simp only[Bool.not_eq_true',Bool.or_eq_false_iff,decide_eq_false_iff_not]at h
 have hl:x.fr.toNat<w.length:=by omega
 refine⟨by omega,hl,?_⟩
 unfold wntF
 rw[Yq hl]
 rfl
theorem prtAt_at {l:List Prt} {i:Int} (h0:0<=i) (h1:i<l.length):i.toNat<l.length/\l[i.toNat]?=some (prtAt l i):=by
 have hl:i.toNat<l.length:=by omega
 refine⟨hl,?_⟩
 unfold prtAt
 rw[Yq hl]
 rfl
section
variable {n : Nat}
end
section
variable {n : Nat}
end
def ctyS (p:Plc) (s:ByteArray):ByteArray:=
 match p.aps.find? λa=>a.code.toList == s.toList with
 |some a=>a.ctry
 |none=>match p.aps.find? λa=>a.city.toList == s.toList with
  |some a=>a.ctry
  |none=>ByteArray.mk #[]
def scpF (p:Plc) (x:Tx) (s:Wnt):Bool:=
 if x.scope=0 then decide (ctyS p s.fr=x.land) || decide (ctyS p s.to=x.land) else if x.scope=1 then decide (ctyS p s.fr=x.land) && decide (ctyS p s.to=x.land) else !(decide (ctyS p s.fr=x.land) == decide (ctyS p s.to=x.land))
def trnF (x:Tx) (a b:Wnt):Bool:=decide (a.to=b.fr) && (decide (b.dep>=a.arr) && decide (IntKind.i64.wrap (b.dep-a.arr)<=x.transit))
def optB {α:Type} (f:α->Bool):Option α->Bool
 |none=>false
 |some a=>f a
def dueF (p:Plc) (x:Tx) (u:Option Wnt) (s:Wnt) (v:Option Wnt):Nat:=
 if scpF p x s=false then 0
 else if (decide (x.kind=1) && (!decide (ctyS p s.fr=x.land) || optB (λy=>trnF x y s) u))=true then 0
 else if (decide (x.kind=2) && (!decide (ctyS p s.to=x.land) || optB (λy=>trnF x s y) v))=true then 0
 else 1
def sumD (p:Plc) (x:Tx):Option Wnt->List Wnt->Nat
 |_,[]=>0
 |u,s::ss=>dueF p x u s ss.head? +sumD p x (some s) ss
def timF (p:Plc) (x:Tx) (l:List Wnt) (s:ByteArray):Nat:=
 if (x.free.any λy=>decide (y=s))=true then 0 else if x.kind<1∨4<x.kind then 0 else if x.kind=4 then min (sumD p x none l) 1 else sumD p x none l
theorem dueF_le (p:Plc) (x:Tx) (u:Option Wnt) (s:Wnt) (v:Option Wnt):dueF p x u s v<=1:=by
 unfold dueF
 repeat' split
 all_goals omega
theorem sumD_le (p:Plc) (x:Tx):∀(u:Option Wnt) (l:List Wnt),sumD p x u l<=l.length
 |_,[]=>Yt _
 |u,s::ss=>by
  have:=sumD_le p x (some s) ss
  have:=dueF_le p x u s ss.head?
  rw[sumD,Zd]
  omega
section
variable {n : Nat}
theorem eq_bool (a b:Bool):dEq Tryz.prog 10000 4 (.bool a) (.bool b)=some (a == b):=by
 cases a <;> cases b <;> kernel_rfl
theorem Seg_pure (w:Wnt):pureL w.seg=true:=rfl
theorem Segs_pure (l:List Wnt):pureLL (l.map Wnt.seg)=true:=by
 induction l with
 |nil=>rfl
 |cons f fs ih=>rw[Zh,pureLL_cons,ih,Seg_pure];rfl
end
def allE {α:Type} (f:α->α->Bool):List α->List α->Bool
 | [],[]=>true
 |x::xs,y::ys=>f x y && allE f xs ys
 |_,_=>false
section
variable {n : Nat}
end
theorem ltP_asym:∀ {a b:List Prt},ltP a b=true->ltP b a=false
 | [],_,h=>by cases h
 |_::_,[],h=>by cases h
 |x::xs,y::ys,h=>by
  unfold ltP at h ⊢
  by_cases c1:x.to=y.to
  ·rw[if_pos c1]at h
   rw[if_pos c1.symm]
   by_cases c2:x.fa=y.fa
   ·rw[if_pos c2]at h
    rw[if_pos c2.symm]
    exact ltP_asym h
   ·rw[if_neg c2]at h
    rw[if_neg (λe=>c2 e.symm)]
    have:=Zk h
    exact Ym (by omega)
  ·rw[if_neg c1]at h
   rw[if_neg (λe=>c1 e.symm)]
   have:=Zk h
   exact Ym (by omega)
theorem betterF_asym {u v:Quo} (h:betterF u v=true):betterF v u=false:=by
 unfold betterF at h ⊢
 by_cases c1:u.total=v.total
 ·rw[if_pos c1]at h
  rw[if_pos c1.symm]
  by_cases c2:u.parts.length=v.parts.length
  ·rw[if_pos c2]at h
   rw[if_pos c2.symm]
   exact ltP_asym h
  ·rw[if_neg c2]at h
   rw[if_neg (λe=>c2 e.symm)]
   have:=Zk h
   exact Ym (by omega)
 ·rw[if_neg c1]at h
  rw[if_neg (λe=>c1 e.symm)]
  have:=Zk h
  exact Ym (by omega)
theorem ex28_d:isT (dcall E 400 9 [] [])=true:=by kernel_rfl
theorem ex28_c {n:Nat} (hn:400<=n) (st:Bool) (S:List Ob):callD E (dcall E n) st S 9 []=some (.bool true,S):=by
 obtain⟨T,hT⟩:=isT_spec ex28_d
 exact callD_up hn (callD_pure rfl rfl hT rfl)
end Go.Proofs.YtaklebjoenophaaGreat.Dm
