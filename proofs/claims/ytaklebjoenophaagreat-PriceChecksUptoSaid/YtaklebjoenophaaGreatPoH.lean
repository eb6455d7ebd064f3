/-
  The reference's rules and routings of a tariff, exactly: found in the list, or the zero value; links, and whether a way is allowed.
  The reference's distances: the list of what is reached, wherever it lies, and one step of it.
  The reference's miles between two places: it answers.
  The reference's miles of a way, and its surcharge: they answer; links of a routing.
  Whether a routing allows a way: the reference answers; the miles that a fare allows.
  The reference's cities of a way: a list.
  What a passenger pays by a rule: the reference answers.
  The miles that a fare allows, and the amount of a fare: the reference answers.
  Conditions of a rule: lists of texts and of numbers, exactly.
  The stay that a rule asks, and whether two rules combine: the reference, exactly.
  The reference's calendar and periods: weekdays, bits, whether a day is in a period, its days, what two have in common; UTC; dates as text. Some answer of each.
  Prices: which are equal, by the program and by the reference.
  The plain law of the order of prices: of two different valid prices just one is better.
-/
import Derived.Test.YtaklebjoenophaaGreatPoC
import Derived.Test.YtaklebjoenophaaGreatTfA
import Derived.Test.YtaklebjoenophaaGreatPlA
import Derived.Test.YtaklebjoenophaaGreatTv
import Derived.Test.YtaklebjoenophaaGreatTfD
import Derived.Test.YtaklebjoenophaaGreatEnvB
import Derived.Test.YtaklebjoenophaaGreatSkT
set_option maxHeartbeats 64000000
set_option maxRecDepth 100000
set_option linter.unusedSimpArgs false
set_option linter.unusedVariables false
namespace Go.Proofs.YtaklebjoenophaaGreat.Dm
open Go Gw
def rouD:Option Rou->D
 |some r=>.agg r.enc
 |none=>.agg [.int .i64 0,.nils,.int .i64 0]
theorem rouD_pure (o:Option Rou):(rouD o).pure=true:=by
 cases o with
 |none=>rfl
 |some r=>simp only[rouD,D.pure,Rou_pure]
def rulD:Option Rul->D
 |some r=>.agg r.enc
 |none=>.agg [.int .i64 0,.int .i64 0,.nils,.int .i64 0,.int .i64 0,.int .i64 0,.int .i64 0,.int .i64 0,.nils,.nils,.int .i64 0,.int .i64 0,.int .i64 0,.int .i64 0,.nils]
theorem Jl (o:Option Rul):(rulD o).pure=true:=by
 cases o with
 |none=>rfl
 |some r=>simp only[rulD,D.pure,Rul_pure]
def linkF (s t:ByteArray):List (ByteArray×ByteArray)->Int->Int
 | [],_=> -1
 |x::xs,i=>if x.1=s/\x.2=t then i else linkF s t xs (i+1)
section
variable {n : Nat}
theorem Routing24_x (fe re te:List (List D)) (fx rx tx:Bool) (l:List Rou) (lx:Bool) (hf:Zc fe=true) (hr:Zc re=true) (ht:Zc te=true) (hl:l.length<=1048576) (hn:1048580<=n) (k:Int):∀st S,Yi E (Yb E n) st S 84 [.agg [.sl 9 fe fx,.sl 15 re rx,.sl 3 (l.map Rou.enc) lx,.sl 7 te tx],.int .i64 k]=some (.tup [rouD (l.find? λr=>decide (r.num=k)),.bool (l.find? λr=>decide (r.num=k)).isSome],S):=by
 obtain⟨m,rfl⟩:∃m,n=m+1:=⟨n-1,by omega⟩
 have:WO (Yb E (m+1) 84 [.agg [.sl 9 fe fx,.sl 15 re rx,.sl 3 (l.map Rou.enc) lx,.sl 7 te tx],.int .i64 k] []) λr T=>r=.tup [rouD (l.find? λr=>decide (r.num=k)),.bool (l.find? λr=>decide (r.num=k)).isSome]:=by
  refine Ye Tryz.func84 rfl (by decide) rfl 28 rfl (λa hal ha=>?_)
  obtain⟨h0,h1⟩:=aQ2 ha
  clear ha
  obtain⟨q,hq⟩:∃q,q=l.find? λr=>decide (r.num=k):=⟨_,rfl⟩
  rw[<-hq]
  simp only[push_cast,h0,↓WX,simprocAttr]
  refine Yk (λi a T=>(T=[Ob.row 4 [[.sl 9 fe fx,.sl 15 re rx,.sl 3 (l.map Rou.enc) lx,.sl 7 te tx]],Ob.row 3 [[.int .i64 0,.nils,.int .i64 0]]]/\q=(l.drop i).find? λr=>decide (r.num=k))/\a.length=28/\a[1]?=some (.int .i64 k)/\a[2]?=some (.loc 0 0 0)/\a[4]?=some (.loc 1 0 0)/\a[6]?=some (.int .i64 i)) l.length ?_ (by omega) ?_
  ·simp only[push_cast,hal,h1,simprocAttr,WY]
   exact hq
  rintro i a T hi ⟨⟨rfl,e⟩,hal,h1,h2,h4,h6⟩
  rcases Kw hi with hlt |rfl
  case inr=>
   rw[Vj,List.find?_nil]at e
   subst e
   simp only[push_cast,hal,h2,h4,h6,rouD,Option.isSome_none,Tryz.f84,↓WX,simprocAttr,WY]
  obtain⟨x,hx⟩:∃x,l[i]?=some x:=⟨l[i],by simp⟩
  have hltc:(i:Int)<l.length:=by omega
  rw[Yu hx,List.find?_cons]at e
  by_cases c:x.num=k
  ·have d1:decide (x.num=k)=true:=Ue c
   rw[d1]at e
   subst e
   simp only[push_cast,hal,h1,h2,h4,h6,hltc,hx,d1,Rou.enc,rouD,Option.isSome_some,Tryz.f84,↓WX,simprocAttr]
  ·have d1:decide (x.num=k)=false:=Ud c
   rw[d1]at e
   simp(disch:=omega)only[push_cast,hal,h1,h2,h4,h6,hltc,hlt,hx,d1,Rou.enc,Yf,↓WX,simprocAttr,WY]
   exact e
 obtain⟨_,T,ho,rfl⟩:=this
 exact λst S=>Yd rfl (by simp only[Yc,Yg,D.pure,hf,hr,ht,Jz,Bool.and_self]) ho (Yy (by simp only[D.pure,Yc,Yg,rouD_pure,Ua]))
theorem Rule24_x (fe oe te:List (List D)) (fx ox tx:Bool) (l:List Rul) (lx:Bool) (hf:Zc fe=true) (hr:Zc oe=true) (ht:Zc te=true) (hl:l.length<=1048576) (hn:1048580<=n) (k:Int):∀st S,Yi E (Yb E n) st S 81 [.agg [.sl 9 fe fx,.sl 15 (l.map Rul.enc) lx,.sl 3 oe ox,.sl 7 te tx],.int .i64 k]=some (.tup [rulD (l.find? λr=>decide (r.num=k)),.bool (l.find? λr=>decide (r.num=k)).isSome],S):=by
 obtain⟨m,rfl⟩:∃m,n=m+1:=⟨n-1,by omega⟩
 have:WO (Yb E (m+1) 81 [.agg [.sl 9 fe fx,.sl 15 (l.map Rul.enc) lx,.sl 3 oe ox,.sl 7 te tx],.int .i64 k] []) λr T=>r=.tup [rulD (l.find? λr=>decide (r.num=k)),.bool (l.find? λr=>decide (r.num=k)).isSome]:=by
  refine Ye Tryz.func81 rfl (by decide) rfl 28 rfl (λa hal ha=>?_)
  obtain⟨h0,h1⟩:=aQ2 ha
  clear ha
  obtain⟨q,hq⟩:∃q,q=l.find? λr=>decide (r.num=k):=⟨_,rfl⟩
  rw[<-hq]
  simp only[push_cast,h0,↓WX,simprocAttr]
  refine Yk (λi a T=>(T=[Ob.row 4 [[.sl 9 fe fx,.sl 15 (l.map Rul.enc) lx,.sl 3 oe ox,.sl 7 te tx]],Ob.row 15 [[.int .i64 0,.int .i64 0,.nils,.int .i64 0,.int .i64 0,.int .i64 0,.int .i64 0,.int .i64 0,.nils,.nils,.int .i64 0,.int .i64 0,.int .i64 0,.int .i64 0,.nils]]]/\q=(l.drop i).find? λr=>decide (r.num=k))/\a.length=28/\a[1]?=some (.int .i64 k)/\a[2]?=some (.loc 0 0 0)/\a[4]?=some (.loc 1 0 0)/\a[6]?=some (.int .i64 i)) l.length ?_ (by omega) ?_
  ·simp only[push_cast,hal,h1,simprocAttr,WY]
   exact hq
  rintro i a T hi ⟨⟨rfl,e⟩,hal,h1,h2,h4,h6⟩
  rcases Kw hi with hlt |rfl
  case inr=>
   rw[Vj,List.find?_nil]at e
   subst e
   simp only[push_cast,hal,h2,h4,h6,rulD,Option.isSome_none,Tryz.f81,↓WX,simprocAttr,WY]
  obtain⟨x,hx⟩:∃x,l[i]?=some x:=⟨l[i],by simp⟩
  have hltc:(i:Int)<l.length:=by omega
  obtain⟨w,hw⟩:∃w,x.when=w:=⟨_,rfl⟩
  have hxe:Rul.enc x=.int .i64 x.num::(w.enc++[.sl 1 (x.comb.map encZ) x.combx,.int .i64 x.mins,.int .i64 x.maxs,.int .i64 x.chg,.int .i64 x.ref,.sl 2 (x.pcs.map encPc) x.pcx]):=by rw[<-hw];rfl
  cases w with |mk k' l' lx' u' v' pf' pt' pd' t' tx'=>?_
  simp only[Cnd.enc,Uv,Vr]at hxe
  rw[Yu hx,List.find?_cons]at e
  by_cases c:x.num=k
  ·have d1:decide (x.num=k)=true:=Ue c
   rw[d1]at e
   subst e
   simp only[push_cast,hal,h1,h2,h4,h6,hltc,hx,d1,hxe,rulD,Option.isSome_some,Tryz.f81,↓WX,simprocAttr]
  ·have d1:decide (x.num=k)=false:=Ud c
   rw[d1]at e
   simp(disch:=omega)only[push_cast,hal,h1,h2,h4,h6,hltc,hlt,hx,d1,hxe,Yf,↓WX,simprocAttr,WY]
   exact e
 obtain⟨_,T,ho,rfl⟩:=this
 exact λst S=>Yd rfl (by simp only[Yc,Yg,D.pure,hf,hr,ht,Ruls_pure,Bool.and_self]) ho (Yy (by simp only[D.pure,Yc,Yg,Jl,Ua]))
end
def SpI (c:ByteArray) (B:Nat) (T:List Ob) (d:D) (l:List (ByteArray×Int)):Prop:=
 (d=.sl 2 [Kp (c,0)] true/\l=[(c,0)])∨∃k,B<=k/\d=.os k 0 l.length false/\T[k]?=some (.row 2 (l.map Kp))
def KeepJ (B:Nat) (T U:List Ob):Prop:=∀j o,(j<B∨∀es,o≠.row 2 es)->T[j]?=some o->U[j]?=some o
theorem KeepJ.refl {B:Nat} {T:List Ob}:KeepJ B T T:=λ_ _ _ h=>h
theorem KeepJ.trans {B:Nat} {T U V:List Ob} (h:KeepJ B T U) (g:KeepJ B U V):KeepJ B T V:=λj o c k=>g j o c (h j o c k)
theorem SpI.push {c:ByteArray} {B:Nat} {T:List Ob} {d:D} {l:List (ByteArray×Int)} (h:SpI c B T d l) (o:Ob):SpI c B (T++[o]) d l:=by
 rcases h with h | ⟨k,h1,h2,h3⟩
 ·exact .inl h
 ·exact .inr ⟨k,h1,h2,Ym h3⟩
section
variable {n : Nat}
theorem reached_at {c:ByteArray} {B:Nat} {T:List Ob} {d:D} {l:List (ByteArray×Int)} (h:SpI c B T d l) (hl:l.length<=100000) (hn:100010<=n) (s:ByteArray):∀st,Yi E (Yb E n) st T 222 [d,.str s]=some (.int .i64 (rchF s l),T):=by
 rcases h with ⟨rfl,rfl⟩ | ⟨k,-,rfl,hk⟩
 ·exact λst=>reached_sl [(c,0)] true s (by simp) hn st T
 ·exact reached_os l k T hk s hl hn
theorem reach_at {c:ByteArray} {B:Nat} {T:List Ob} {d:D} {l:List (ByteArray×Int)} (h:SpI c B T d l) (hB:B<=T.length) (hl:l.length<=90000) (hn:100020<=n) (s:ByteArray) (v:Int) (hv:0<=v):
  ∃r U,(∀st,Yi E (Yb E n) st T 223 [d,.str s,.int .i64 v]=some (.tup [r,.bool (reF s v l).2],U))/\SpI c B U r (reF s v l).1/\KeepJ B T U/\T.length<=U.length:=by
 have mk:∀(args:List D) (r:D) (U:List Ob) st,Yb E n 223 args T=some (r,U)->Yi E (Yb E n) st T 223 args=some (r,U):=λargs r U st h=>by
  unfold Yi
  rw[show E.mode 223=.gen from rfl]
  exact h
 obtain⟨m,rfl⟩:∃m,n=m+1:=⟨n-1,by omega⟩
 rcases h with ⟨rfl,rfl⟩ | ⟨k,hk0,rfl,hk⟩
 ·by_cases e:c=s
  ·subst e
   obtain⟨d,U,ho,rfl,rfl⟩:=reach_eq (n:=m) c T v hv (by omega)
   have hr:reF c v [(c,0)]=([(c,0)],false):=by
    unfold reF
    rw[if_pos rfl,if_pos hv]
   rw[hr]
   exact⟨_,_,λst=>mk _ _ _ st ho,.inl ⟨rfl,rfl⟩,KeepJ.refl,Uk _⟩
  ·obtain⟨d,U,ho,rfl,rfl⟩:=reach_ne (n:=m) c T s e v (by omega)
   have hr:reF s v [(c,0)]=([(c,0),(s,v)],true):=by
    unfold reF
    rw[if_neg e]
    rfl
   rw[hr]
   exact⟨_,_,λst=>mk _ _ _ st ho,.inr ⟨T.length,hB,rfl,Yl⟩,λj o _ hj=>Ym hj,by simp⟩
 ·obtain⟨d,U,ho,⟨k',rfl,h1,h4⟩,h2,hlen⟩:=reach_os (n:=m) l k T hk s v (by omega) (by omega)
  refine⟨_,U,λst=>mk _ _ _ st ho,.inr ⟨k',?_,rfl,h1⟩,λj o hc hj=>h2 j o (λe=>?_) hj,hlen⟩
  ·rcases h4 with rfl |rfl
   ·exact hk0
   ·exact hB
  ·subst e
   rw[hk]at hj
   rcases hc with hc |hc
   ·omega
   ·exact hc _ (Kz hj).symm
end
def nsF (c:ByteArray) (l:List Dst):List ByteArray:=c::l.flatMap λx=>[x.fr,x.to]
theorem nsF_len (c:ByteArray) (l:List Dst):(nsF c l).length=2*l.length+1:=by
 unfold nsF
 rw[Uu]
 congr 1
 induction l with
 |nil=>rfl
 |cons x xs ih=>rw[List.flatMap_cons,Ku,ih,Uu];simp;omega
theorem nsF_fr {c:ByteArray} {l:List Dst} {x:Dst} (h:x∈l):x.fr∈nsF c l:=Um _ (List.mem_flatMap.2 ⟨x,h,by simp⟩)
theorem nsF_to {c:ByteArray} {l:List Dst} {x:Dst} (h:x∈l):x.to∈nsF c l:=Um _ (List.mem_flatMap.2 ⟨x,h,by simp⟩)
section
variable {n : Nat}
end
section
variable {n : Nat}
end
section
variable {n : Nat}
end
def citF (p:Plc) (l:List Wnt):List ByteArray:=match l with
 | []=>[]
 |w::ws=>Kb p w.fr::(w::ws).map λw=>Kb p w.to
theorem citF_add (p:Plc) {l:List Wnt} (x:Wnt) (h:l≠[]):citF p (l++[x])=citF p l++[Kb p x.to]:=by
 cases l with
 |nil=>exact (h rfl).elim
 |cons w ws=>simp only[citF,Uv,Uy,List.map_append,List.map_nil]
theorem citF_len (p:Plc) {l:List Wnt} (h:l≠[]):(citF p l).length=l.length+1:=by
 cases l with
 |nil=>exact (h rfl).elim
 |cons w ws=>simp only[citF,Uu,Uq]
section
variable {n : Nat}
theorem Cities25_d (p:Plc) (hpa:p.aps.length<=1048576) (l:List Wnt) (lx:Bool) (hl:l.length<=1000) (hn:1048590<=n):
  WO (Yb E (n+1) 80 [.agg p.enc,.sl 8 (l.map Wnt.enc) lx] []) λr T=>∃cs:List ByteArray,GL 1 Cnd.encT T r cs/\cs=citF p l:=by
 obtain⟨fc,hfc,hf⟩:∃fc:ByteArray->ByteArray,fc=Kb p/\∀s st S,Yi E (Yb E n) st S 136 [.agg p.enc,.str s]=some (.str (fc s),S):=⟨Kb p,rfl,λs st S=>rCity_c (by omega) (by omega) st S⟩
 simp only[Plc.enc]at hf ⊢
 have ap:∀ {T:List Ob} {d:D} {cs:List ByteArray},GL 1 Cnd.encT T d cs->cs.length<=100000->∀s,∃S',Zb Tryz.prog T 67 67 d (.sl 1 [[.str s]] true)=some (.os T.length 0 (cs.length+1) false,S')/\GL 1 Cnd.encT S' (.os T.length 0 (cs.length+1) false) (cs++[s])/\S'.length=T.length+1/\(∀k o,(∀n,d=.os k 0 n false->False)->T[k]?=some o->S'[k]?=some o):=λh hc s=>by
  obtain⟨S',a1,a2,a3,a4,-⟩:=app_gl (t:=67) (e:=9) (z:=.str (ByteArray.mk #[])) (n:=0) (by kernel_rfl) (by kernel_rfl) (by kernel_rfl) rfl (Nat.le_of_ble_eq_true (by kernel_rfl)) h hc s
  exact⟨S',a1,a2,a3,a4⟩
 refine Ye Tryz.func80 rfl (by decide) rfl 38 rfl (λa hal ha=>?_)
 obtain⟨h0,h1⟩:=aQ2 ha
 clear ha
 simp only[push_cast,h0,↓WX,simprocAttr]
 refine Yk (λi a T=>(∃d cs,a[5]?=some d/\GL 1 Cnd.encT T d cs/\(∀n,d=.os 0 0 n false->False)/\cs=citF p (l.take i)/\T[0]?=some (Ob.row 2 [[.sl 5 (p.aps.map Apt.enc) p.apsx,.sl 3 (p.dts.map Dst.enc) p.dtsx]])/\1<=T.length)/\a.length=38/\a[1]?=some (.sl 8 (l.map Wnt.enc) lx)/\a[2]?=some (.loc 0 0 0)/\a[6]?=some (.int .i64 i)) l.length ?_ (by omega) ?_
 ·simp only[push_cast,hal,h1,simprocAttr,WY]
  exact⟨_,[],rfl,GL.nil,λn h=>(by cases h),rfl⟩
 rintro i a T hi ⟨⟨d,cs,h5,hg,hd,hc0,hT,hTl⟩,hal,h1,h2,h6⟩
 rcases Kw hi with hlt |rfl
 case inr=>
  simp only[push_cast,hal,h1,h5,h6,Tryz.f80,↓WX,simprocAttr,WY]
  exact⟨cs,hg,by rw[hc0,Vi]⟩
 have hltc:(i:Int)<l.length:=by omega
 obtain⟨x,hx⟩:∃x,l[i]?=some x:=⟨l[i],by simp⟩
 have hti:(l.take (i+1))=l.take i++[x]:=by rw[List.take_add_one,hx];rfl
 have hc1:i≠0->cs.length=i+1/\citF p (l.take (i+1))=cs++[Kb p x.to]:=λe=>by
  have hne:l.take i≠[]:=λh=>by have:=congrArg List.length h;rw[Ve,Vs]at this;omega
  rw[hc0]
  refine⟨?_,by rw[hti,citF_add p x hne]⟩
  rw[citF_len p hne,Ve]
  omega
 have hc2:i=0->cs=[]/\citF p (l.take (i+1))=[Kb p x.fr]++[Kb p x.to]:=λe=>by
  subst e
  refine⟨hc0,?_⟩
  rw[hti]
  rfl
 have hcl:cs.length<=2000:=by
  by_cases e:i=0
  ·rw[(hc2 e).1];exact Vt _
  ·rw[(hc1 e).1];omega
 rw[<-hfc]at hc1 hc2
 refine Ya (λa V=>V=T/\gQ a 38 (a[6]?=some (.int .i64 i)) [(1,.sl 8 (l.map Wnt.enc) lx),(2,.loc 0 0 0),(5,d)]) ?_ ?_
 ·simp only[push_cast,hal,h1,h2,h5,h6,hltc,↓WX,simprocAttr]
 rintro a V ⟨rfl,hal,h1,h2,h5,h6⟩
 rw[Zx,Yx]
 refine Ya (λa T=>(∃d cs,a[5]?=some d/\GL 1 Cnd.encT T d cs/\(∀n,d=.os 0 0 n false->False)/\(cs.length=i+1/\citF p (l.take (i+1))=cs++[fc x.to])/\T[0]?=some (Ob.row 2 [[.sl 5 (p.aps.map Apt.enc) p.apsx,.sl 3 (p.dts.map Dst.enc) p.dtsx]])/\1<=T.length)/\gQ a 38 (a[6]?=some (.int .i64 i)) [(1,.sl 8 (l.map Wnt.enc) lx),(2,.loc 0 0 0)]) ?_ ?_
 ·by_cases e:i=0
  case neg=>
   have d1:decide ((i:Int)=0)=false:=Ud (by omega)
   simp only[push_cast,hal,h1,h2,h5,h6,d1,↓WX,simprocAttr]
   exact⟨_,cs,rfl,hg,hd,hc1 e,hT,hTl⟩
  have d1:decide ((i:Int)=0)=true:=Ue (by omega)
  obtain⟨S',a1,a2,a3,a4⟩:=ap hg (by omega) (fc x.fr)
  have hT':=a4 _ _ hd hT
  simp only[push_cast,hal,h1,h2,h5,h6,d1,hT,hx,hf,a1,Wnt.enc,↓WX,simprocAttr]
  exact⟨_,_,rfl,a2,λn h=>by have:=(D.os.inj h).1;omega,⟨by rw[Ku,(hc2 e).1,e];rfl,by rw[(hc2 e).1];exact (hc2 e).2⟩,hT',by omega⟩
 clear hg hd hc0 hc1 hc2 hT hTl hcl
 rintro a T ⟨⟨d,cs,h5,hg,hd,⟨hc,hcc⟩,hT,hTl⟩,hal,h1,h2,h6⟩
 obtain⟨S',a1,a2,a3,a4⟩:=ap hg (by omega) (fc x.to)
 have hT':=a4 _ _ hd hT
 simp(disch:=omega)only[push_cast,hal,h1,h2,h5,h6,hT,hlt,hx,hf,a1,Wnt.enc,Yf,↓WX,simprocAttr,WY]
 exact⟨_,_,rfl,a2,λn h=>by have:=(D.os.inj h).1;omega,hcc.symm,hT',by omega⟩
theorem Cities25_x (p:Plc) (hpa:p.aps.length<=1048576) (l:List Wnt) (lx:Bool) (hl:l.length<=1000) (hn:1048600<=n):∃d,FLs 1 Cnd.encT d (citF p l)/\∀st S,Yi E (Yb E n) st S 80 [.agg p.enc,.sl 8 (l.map Wnt.enc) lx]=some (d,S):=by
 obtain⟨m,rfl⟩:∃m,n=m+1:=⟨n-1,by omega⟩
 obtain⟨d,T,ho,cs,hg,rfl⟩:=Cities25_d (n:=m) p hpa l lx hl (by omega)
 obtain⟨d',f,hf⟩:=hg.fls (Cnd.encT_pure _)
 exact⟨d',hf,λst S=>Yd rfl (by simp only[Yc,Yg,D.pure,Yt,Jd,Ua]) ho f⟩
theorem Cities25_c (p:Plc) (hpa:p.aps.length<=1048576) (l:List Wnt) (lx:Bool) (hl:l.length<=1000) (hl0:l≠[]) (hn:1048600<=n):∃(cs:List ByteArray) (cx:Bool),cs=citF p l/\cs.length=l.length+1/\∀st S,Yi E (Yb E n) st S 80 [.agg p.enc,.sl 8 (l.map Wnt.enc) lx]=some (.sl 1 (cs.map Cnd.encT) cx,S):=by
 obtain⟨d,hf,hc⟩:=Cities25_x (n:=n) p hpa l lx hl hn
 have hlen:=citF_len p hl0
 rcases hf with ⟨-,h⟩ | ⟨cx,rfl⟩
 ·rw[h]at hlen
  cases hlen
 ·exact⟨_,cx,rfl,hlen,hc⟩
end
section
variable {n : Nat}
end
section
variable {n : Nat}
end
theorem Xr {α:Type} {sz:Nat} {enc:α->List D} {d:D} {l:List α} (h:FLs sz enc d l) (hp:Zc (l.map enc)=true):d.pure=true:=by
 rcases h with ⟨rfl,-⟩ | ⟨x,rfl⟩
 ·rfl
 ·simp only[D.pure,hp]
theorem Yv {α:Type} {sz:Nat} {enc:α->List D} {d:D} {l:List α} (h:FLs sz enc d l):d.one=true:=by
 rcases h with ⟨rfl,-⟩ | ⟨x,rfl⟩ <;> rfl
theorem Jv {α:Type} {sz:Nat} {enc:α->List D} {S:List Ob} {d:D} {l:List α} {t e:TypeId} (ht:Tryz.prog.underlying t=some (.slice e)) (h:FLs sz enc d l):dLen Tryz.prog S t d=some (.int .i64 l.length):=by
 unfold dLen
 rw[ht]
 rcases h with ⟨rfl,rfl⟩ | ⟨x,rfl⟩
 ·rfl
 ·dsimp only
  rw[Uq]
theorem encZs_pure' (l:List Int):Zc (l.map encZ)=true:=by
 induction l with
 |nil=>rfl
 |cons f fs ih=>rw[Uy,Zw,ih];rfl
section
variable {n : Nat}
theorem has20_x {d:D} {l:List ByteArray} (h:FLs 1 Cnd.encT d l) (hl:l.length<=1048576) (s:ByteArray) (hn:1048590<=n):∀st S,Yi E (Yb E n) st S 190 [d,.str s]=some (.bool (l.any λx=>decide (x=s)),S):=by
 obtain⟨m,rfl⟩:∃m,n=m+1:=⟨n-1,by omega⟩
 have hp:=Xr h (Cnd.encT_pure l)
 have hy:=λS=>Jv (S:=S) Tryz.underlying67 h
 simp only[push_cast]at hy
 have:WO (Yb E (m+1) 190 [d,.str s] []) λr T=>r=.bool (l.any λx=>decide (x=s)):=by
  obtain⟨q,hq⟩:∃q,q=l.any λx=>decide (x=s):=⟨_,rfl⟩
  rw[<-hq]
  refine Ye Tryz.func190 rfl (by decide) rfl 18 rfl (λa hal ha=>?_)
  obtain⟨h0,h1⟩:=aQ2 ha
  clear ha
  simp only[push_cast,↓WX,simprocAttr]
  refine Yk (λi a T=>(T=[]/\q=(l.drop i).any λx=>decide (x=s))/\a.length=18/\a[0]?=some (d)/\a[1]?=some (.str s)/\a[5]?=some (.int .i64 i)) l.length ?_ (by omega) ?_
  ·simp only[push_cast,hal,h0,h1,simprocAttr,WY]
   exact hq
  rintro i a T hi ⟨⟨rfl,e⟩,hal,h0,h1,h5⟩
  rcases Kw hi with hlt |rfl
  case inr=>
   rw[Vj,List.any_nil]at e
   subst e
   simp only[push_cast,hal,h0,h5,hy,Tryz.f190,↓WX,simprocAttr,WY]
  have hltc:(i:Int)<l.length:=by omega
  obtain⟨x,hx⟩:∃x,l[i]?=some x:=⟨l[i],by simp⟩
  rw[Yu hx,List.any_cons]at e
  rcases h with ⟨-,rfl⟩ | ⟨lx,rfl⟩
  ·cases hx
  cases e1:decide (x=s)
  ·rw[e1,Bool.false_or]at e
   simp(disch:=omega)only[push_cast,hal,h0,h1,h5,hltc,hlt,hx,e1,Yo,Cnd.encT,Yf,↓WX,simprocAttr,WY]
   exact e
  ·rw[e1,Bool.true_or]at e
   subst e
   simp only[push_cast,hal,h0,h1,h5,hltc,hx,e1,Yo,Cnd.encT,Tryz.f190,↓WX,simprocAttr]
 obtain⟨_,T,ho,rfl⟩:=this
 exact λst S=>Yd rfl (by simp only[Yc,Yg,hp,D.pure,Ua]) ho rfl
theorem within20_x {d e:D} {l c:List ByteArray} (h:FLs 1 Cnd.encT d l) (hl:l.length<=1048576) (g:FLs 1 Cnd.encT e c) (hc:c.length<=1048576) (hn:1048600<=n):∀st S,Yi E (Yb E n) st S 188 [d,e]=some (.bool (l.all λs=>c.any λx=>decide (x=s)),S):=by
 obtain⟨m,rfl⟩:∃m,n=m+1:=⟨n-1,by omega⟩
 have hp:=Xr h (Cnd.encT_pure l)
 have hpe:=Xr g (Cnd.encT_pure c)
 have hy:=λS=>Jv (S:=S) Tryz.underlying67 h
 simp only[push_cast]at hy
 have hf:=λs=>has20_x (n:=m) g hc s (by omega)
 generalize hfb:(λs:ByteArray=>c.any λx=>decide (x=s))=fb
 replace hf:∀s st S,Yi E (Yb E m) st S 190 [e,.str s]=some (.bool (fb s),S):=by subst hfb;exact hf
 have:WO (Yb E (m+1) 188 [d,e] []) λr T=>r=.bool (l.all fb):=by
  obtain⟨q,hq⟩:∃q,q=l.all fb:=⟨_,rfl⟩
  rw[<-hq]
  refine Ye Tryz.func188 rfl (by decide) rfl 19 rfl (λa hal ha=>?_)
  obtain⟨h0,h1⟩:=aQ2 ha
  clear ha
  simp only[push_cast,↓WX,simprocAttr]
  refine Yk (λi a T=>(T=[]/\q=(l.drop i).all fb)/\a.length=19/\a[0]?=some (d)/\a[1]?=some (e)/\a[5]?=some (.int .i64 i)) l.length ?_ (by omega) ?_
  ·simp only[push_cast,hal,h0,h1,simprocAttr,WY]
   exact hq
  rintro i a T hi ⟨⟨rfl,e0⟩,hal,h0,h1,h5⟩
  rcases Kw hi with hlt |rfl
  case inr=>
   rw[Vj,List.all_nil]at e0
   subst e0
   simp only[push_cast,hal,h0,h5,hy,Tryz.f188,↓WX,simprocAttr,WY]
  have hltc:(i:Int)<l.length:=by omega
  obtain⟨x,hx⟩:∃x,l[i]?=some x:=⟨l[i],by simp⟩
  rw[Yu hx,List.all_cons]at e0
  rcases h with ⟨-,rfl⟩ | ⟨lx,rfl⟩
  ·cases hx
  cases e1:fb x
  ·rw[e1,Bool.false_and]at e0
   subst e0
   simp only[push_cast,hal,h0,h1,h5,hltc,hx,hf,e1,Cnd.encT,Tryz.f188,↓WX,simprocAttr,WY]
  ·rw[e1,Bool.true_and]at e0
   simp(disch:=omega)only[push_cast,hal,h0,h1,h5,hltc,hlt,hx,hf,e1,Cnd.encT,Yf,↓WX,simprocAttr,WY]
   exact e0
 obtain⟨_,T,ho,rfl⟩:=this
 exact λst S=>Yd rfl (by simp only[Yc,Yg,hp,hpe,Ua]) ho rfl
theorem between20_x {d:D} {l:List Int} (h:FLs 1 encZ d l) (hl:l.length<=1048576) (u v:Int) (hn:1048590<=n):∀st S,Yi E (Yb E n) st S 189 [d,.int .i64 u,.int .i64 v]=some (.bool (l.all λx=> !(decide (x<u) || decide (x>v))),S):=by
 obtain⟨m,rfl⟩:∃m,n=m+1:=⟨n-1,by omega⟩
 have hp:=Xr h (encZs_pure' l)
 have hy:=λS=>Jv (S:=S) Tryz.underlying70 h
 simp only[push_cast]at hy
 have:WO (Yb E (m+1) 189 [d,.int .i64 u,.int .i64 v] []) λr T=>r=.bool (l.all λx=> !(decide (x<u) || decide (x>v))):=by
  obtain⟨q,hq⟩:∃q,q=l.all λx=> !(decide (x<u) || decide (x>v)):=⟨_,rfl⟩
  rw[<-hq]
  refine Ye Tryz.func189 rfl (by decide) rfl 28 rfl (λa hal ha=>?_)
  obtain⟨h0,h1,h2⟩:=aQ3 ha
  clear ha
  simp only[push_cast,↓WX,simprocAttr]
  refine Yk (λi a T=>(T=[]/\q=(l.drop i).all λx=> !(decide (x<u) || decide (x>v)))/\a.length=28/\a[0]?=some (d)/\a[1]?=some (.int .i64 u)/\a[2]?=some (.int .i64 v)/\a[7]?=some (.int .i64 i)) l.length ?_ (by omega) ?_
  ·simp only[push_cast,Vn,hal,h0,h1,h2,simprocAttr,WY]
   exact hq
  rintro i a T hi ⟨⟨rfl,e⟩,hal,h0,h1,h2,h7⟩
  rcases Kw hi with hlt |rfl
  case inr=>
   rw[Vj,List.all_nil]at e
   subst e
   simp only[push_cast,Vn,hal,h0,h7,hy,Tryz.f189,↓WX,simprocAttr,WY]
  have hltc:(i:Int)<l.length:=by omega
  obtain⟨x,hx⟩:∃x,l[i]?=some x:=⟨l[i],by simp⟩
  rw[Yu hx,List.all_cons]at e
  rcases h with ⟨-,rfl⟩ | ⟨lx,rfl⟩
  ·cases hx
  cases e1:decide (x<u)
  ·cases e2:decide (x>v)
   ·rw[e1,e2,Bool.or_false,Bool.not_false,Bool.true_and]at e
    simp(disch:=omega)only[push_cast,Vn,hal,h0,h1,h2,h7,hltc,hlt,hx,e1,e2,encZ,Yf,↓WX,simprocAttr,WY]
    exact e
   ·rw[e1,e2,Bool.or_true,Bool.not_true,Bool.false_and]at e
    subst e
    simp only[push_cast,Vn,hal,h0,h1,h2,h7,hltc,hx,e1,e2,encZ,Tryz.f189,↓WX,simprocAttr]
  ·rw[e1,Bool.true_or,Bool.not_true,Bool.false_and]at e
   subst e
   simp only[push_cast,Vn,hal,h0,h1,h7,hltc,hx,e1,encZ,Tryz.f189,↓WX,simprocAttr]
 obtain⟨_,T,ho,rfl⟩:=this
 exact λst S=>Yd rfl (by simp only[Yc,Yg,hp,D.pure,Ua]) ho rfl
end
def stayF (mn mx u v:Int):Int:=if u<0∨36525<=u∨v<0∨36525<=v then 12 else if v-u<mn∨(0<mx/\mx<v-u) then 24 else 0
def stayR (o:Option Rul) (u v:Int):Int:=match o with |none=>stayF 0 0 u v |some r=>stayF r.mins r.maxs u v
def mixF (o:Option Rul) (v:Int):Bool:=match o with |none=>true |some r=>(r.comb.any λx=>decide (x=v)) || decide ((r.comb.length:Int)=0)
def numF (o:Option Rul):Int:=match o with |none=>0 |some r=>r.num
def mix2F (a b:Option Rul):Bool:=mixF a (numF b) && mixF b (numF a)
section
variable {n : Nat}
theorem stay21_x (o:Option Rul) (u v:Int) (hn:1<=n):∀st S,Yi E (Yb E n) st S 198 [rulD o,.int .i64 u,.int .i64 v]=some (.int .i64 (stayR o u v),S):=by
 obtain⟨m,rfl⟩:∃m,n=m+1:=⟨n-1,by omega⟩
 have key:∀(c0:Int) (c1 c2:D) (i0 i1 i2 i3 i4 i5:Int) (c8 c9:D) (mn mx ch rf:Int) (c14:D),(c2.one=true/\c8.one=true/\c9.one=true/\c14.one=true)->c1=.int .i64 i0->WO (Yb E (m+1) 198 [.agg [.int .i64 c0,.int .i64 i0,c2,.int .i64 i1,.int .i64 i2,.int .i64 i3,.int .i64 i4,.int .i64 i5,c8,c9,.int .i64 mn,.int .i64 mx,.int .i64 ch,.int .i64 rf,c14],.int .i64 u,.int .i64 v] []) λr T=>r=.int .i64 (stayF mn mx u v):=by
  intro c0 c1 c2 i0 i1 i2 i3 i4 i5 c8 c9 mn mx ch rf c14 hone _
  simp only[D.one]at hone
  obtain⟨n2,n8,n9,n14⟩:=hone
  obtain⟨q,hq⟩:∃q,q=stayF mn mx u v:=⟨_,rfl⟩
  rw[<-hq]
  unfold stayF at hq
  refine Ye Tryz.func198 rfl (by decide) rfl 40 rfl (λa hal ha=>?_)
  obtain⟨h0,h1,h2⟩:=aQ3 ha
  clear ha
  by_cases e1:u<0
  ·simp only[push_cast,hal,h0,h1,n2,n8,n9,n14,e1,Tryz.f198,↓WX,simprocAttr]
   rw[hq,if_pos (by omega)]
  by_cases e2:36525<=u
  ·simp only[push_cast,hal,h0,h1,n2,n8,n9,n14,e1,e2,Tryz.f198,↓WX,simprocAttr]
   rw[hq,if_pos (by omega)]
  by_cases e3:v<0
  ·simp only[push_cast,hal,h0,h1,h2,n2,n8,n9,n14,e1,e2,e3,Tryz.f198,↓WX,simprocAttr]
   rw[hq,if_pos (by omega)]
  by_cases e4:36525<=v
  ·simp only[push_cast,hal,h0,h1,h2,n2,n8,n9,n14,e1,e2,e3,e4,Tryz.f198,↓WX,simprocAttr]
   rw[hq,if_pos (by omega)]
  rw[if_neg (by omega)]at hq
  by_cases e5:v-u<mn
  ·simp(maxSteps:=1000000)(disch:=omega)only[push_cast,hal,h0,h1,h2,n2,n8,n9,n14,e1,e2,e3,e4,e5,Yf,Tryz.f198,↓WX,simprocAttr]
   rw[hq,if_pos (by omega)]
  by_cases e6:0<mx
  case neg=>
   simp(maxSteps:=1000000)(disch:=omega)only[push_cast,Vn,hal,h0,h1,h2,n2,n8,n9,n14,e1,e2,e3,e4,e5,e6,Yf,Tryz.f198,↓WX,simprocAttr]
   rw[hq,if_neg (by omega)]
  by_cases e7:mx<v-u
  ·simp(maxSteps:=1000000)(disch:=omega)only[push_cast,Vn,hal,h0,h1,h2,n2,n8,n9,n14,e1,e2,e3,e4,e5,e6,e7,Yf,Tryz.f198,↓WX,simprocAttr]
   rw[hq,if_pos (by omega)]
  ·simp(maxSteps:=1000000)(disch:=omega)only[push_cast,Vn,hal,h0,h1,h2,n2,n8,n9,n14,e1,e2,e3,e4,e5,e6,e7,Yf,Tryz.f198,↓WX,simprocAttr]
   rw[hq,if_neg (by omega)]
 have:WO (Yb E (m+1) 198 [rulD o,.int .i64 u,.int .i64 v] []) λr T=>r=.int .i64 (stayR o u v):=by
  cases o with
  |none=>exact key 0 (.int .i64 0) .nils 0 0 0 0 0 0 .nils .nils 0 0 0 0 .nils ⟨rfl,rfl,rfl,rfl⟩ rfl
  |some r=>
   obtain⟨w,hw⟩:∃w,r.when=w:=⟨_,rfl⟩
   have hxe:Rul.enc r=.int .i64 r.num::(w.enc++[.sl 1 (r.comb.map encZ) r.combx,.int .i64 r.mins,.int .i64 r.maxs,.int .i64 r.chg,.int .i64 r.ref,.sl 2 (r.pcs.map encPc) r.pcx]):=by rw[<-hw];rfl
   cases w with |mk k' l' lx' u' v' pf' pt' pd' t' tx'=>?_
   simp only[Cnd.enc,Uv,Vr]at hxe
   simp only[rulD,hxe,stayR]
   exact key _ _ _ _ _ _ _ _ _ _ _ _ _ _ _ _ ⟨rfl,rfl,rfl,rfl⟩ rfl
 obtain⟨_,T,hr,rfl⟩:=this
 exact λst S=>Yd rfl (by simp only[Yc,Yg,Jl,D.pure,Ua]) hr rfl
theorem mixes21_x (o:Option Rul) (ho:∀r,o=some r->r.comb.length<=1048576) (v:Int) (hn:1048590<=n):∀st S,Yi E (Yb E n) st S 196 [rulD o,.int .i64 v]=some (.bool (mixF o v),S):=by
 obtain⟨m,rfl⟩:∃m,n=m+1:=⟨n-1,by omega⟩
 have:WO (Yb E (m+1) 196 [rulD o,.int .i64 v] []) λr T=>r=.bool (mixF o v):=by
  cases o with
  |none=>
   simp only[rulD,mixF]
   refine Ye Tryz.func196 rfl (by decide) rfl 24 rfl (λa hal ha=>?_)
   obtain⟨h0,h1⟩:=aQ2 ha
   clear ha
   simp only[push_cast,h0,↓WX,simprocAttr]
   refine Yk (λi a T=>T=[Ob.row 15 [[.int .i64 0,.int .i64 0,.nils,.int .i64 0,.int .i64 0,.int .i64 0,.int .i64 0,.int .i64 0,.nils,.nils,.int .i64 0,.int .i64 0,.int .i64 0,.int .i64 0,.nils]]]/\a.length=24/\a[1]?=some (.int .i64 v)/\a[2]?=some (.loc 0 0 0)/\a[5]?=some (.int .i64 0)) 0 ?_ (by omega) ?_
   ·simp only[push_cast,hal,h1,simprocAttr]
   rintro i a T hi ⟨rfl,hal,h1,h2,h5⟩
   simp only[push_cast,hal,h2,h5,Tryz.f196,↓WX,simprocAttr,WY]
  |some r=>
   have hl:=ho r rfl
   obtain⟨w,hw⟩:∃w,r.when=w:=⟨_,rfl⟩
   have hxe:Rul.enc r=.int .i64 r.num::(w.enc++[.sl 1 (r.comb.map encZ) r.combx,.int .i64 r.mins,.int .i64 r.maxs,.int .i64 r.chg,.int .i64 r.ref,.sl 2 (r.pcs.map encPc) r.pcx]):=by rw[<-hw];rfl
   cases w with |mk k' l' lx' u' v' pf' pt' pd' t' tx'=>?_
   simp only[Cnd.enc,Uv,Vr]at hxe
   simp only[rulD,mixF]
   obtain⟨B,hB⟩:∃B:Ob,B=Ob.row 15 [r.enc]:=⟨_,rfl⟩
   obtain⟨q,hq⟩:∃q,q=((r.comb.any λx=>decide (x=v)) || decide ((r.comb.length:Int)=0)):=⟨_,rfl⟩
   rw[<-hq]
   refine Ye Tryz.func196 rfl (by decide) rfl 24 rfl (λa hal ha=>?_)
   obtain⟨h0,h1⟩:=aQ2 ha
   clear ha
   rw[hxe]at h0 hB
   refine Ya (λa V=>V=[B]/\gQ a 24 (a[2]?=some (.loc 0 0 0)) [(1,.int .i64 v)]) ?_ ?_
   ·simp only[push_cast,hal,h0,h1,↓WX,simprocAttr]
    rw[hB]
   rintro a V ⟨hV,hal,h1,h2⟩
   have g0:V[0]?=some B:=by rw[hV];rfl
   rw[hB]at g0
   clear hV hB
   simp only[push_cast,↓WX,simprocAttr]
   refine Yk (λi a T=>(T=V/\q=(((r.comb.drop i).any λx=>decide (x=v)) || decide ((r.comb.length:Int)=0)))/\a.length=24/\a[1]?=some (.int .i64 v)/\a[2]?=some (.loc 0 0 0)/\a[5]?=some (.int .i64 i)) r.comb.length ?_ (by omega) ?_
   ·simp only[push_cast,hal,h1,h2,simprocAttr,WY]
    exact hq
   rintro i a T hi ⟨⟨rfl,e⟩,hal,h1,h2,h5⟩
   clear hq
   rcases Kw hi with hlt |he
   case inr=>
    rw[he,Vj,List.any_nil,Bool.false_or]at e
    subst he
    simp only[push_cast,hal,h2,h5,g0,Tryz.f196,↓WX,simprocAttr,WY]
    rw[e]
   have hltc:(i:Int)<r.comb.length:=by omega
   obtain⟨x,hx⟩:∃x,r.comb[i]?=some x:=⟨r.comb[i],by simp⟩
   rw[Yu hx,List.any_cons]at e
   cases e1:decide (x=v)
   ·rw[e1,Bool.false_or]at e
    simp(disch:=omega)only[push_cast,hal,h1,h2,h5,g0,hltc,hlt,hx,e1,encZ,Yf,↓WX,simprocAttr,WY]
    exact e
   ·rw[e1,Bool.true_or,Bool.true_or]at e
    subst e
    simp only[push_cast,hal,h1,h2,h5,g0,hltc,hx,e1,encZ,Tryz.f196,↓WX,simprocAttr]
 obtain⟨_,T,hr,rfl⟩:=this
 exact λst S=>Yd rfl (by simp only[Yc,Yg,Jl,D.pure,Ua]) hr rfl
theorem Jy (o:Option Rul):∃c1 c2 c3 c4 c5 c6 c7 c8 c9 c10 c11 c12 c13 c14:D,rulD o=.agg [.int .i64 (numF o),c1,c2,c3,c4,c5,c6,c7,c8,c9,c10,c11,c12,c13,c14]/\(c1.one=true/\c2.one=true/\c3.one=true/\c4.one=true/\c5.one=true/\c6.one=true/\c7.one=true)/\c8.one=true/\c9.one=true/\c10.one=true/\c11.one=true/\c12.one=true/\c13.one=true/\c14.one=true:=by
 cases o with
 |none=>exact⟨_,_,_,_,_,_,_,_,_,_,_,_,_,_,rfl,⟨rfl,rfl,rfl,rfl,rfl,rfl,rfl⟩,rfl,rfl,rfl,rfl,rfl,rfl,rfl⟩
 |some r=>
  obtain⟨w,hw⟩:∃w,r.when=w:=⟨_,rfl⟩
  have hxe:Rul.enc r=.int .i64 r.num::(w.enc++[.sl 1 (r.comb.map encZ) r.combx,.int .i64 r.mins,.int .i64 r.maxs,.int .i64 r.chg,.int .i64 r.ref,.sl 2 (r.pcs.map encPc) r.pcx]):=by rw[<-hw];rfl
  cases w with |mk k' l' lx' u' v' pf' pt' pd' t' tx'=>?_
  simp only[Cnd.enc,Uv,Vr]at hxe
  simp only[rulD,hxe,numF]
  exact⟨_,_,_,_,_,_,_,_,_,_,_,_,_,_,rfl,⟨rfl,rfl,rfl,rfl,rfl,rfl,rfl⟩,rfl,rfl,rfl,rfl,rfl,rfl,rfl⟩
theorem Mix21_x (o p:Option Rul) (ho:∀r,o=some r->r.comb.length<=1048576) (hp:∀r,p=some r->r.comb.length<=1048576) (hn:1048600<=n):∀st S,Yi E (Yb E n) st S 144 [rulD o,rulD p]=some (.bool (mix2F o p),S):=by
 obtain⟨m,rfl⟩:∃m,n=m+1:=⟨n-1,by omega⟩
 have c1:=mixes21_x (n:=m) o ho (numF p) (by omega)
 have c2:=mixes21_x (n:=m) p hp (numF o) (by omega)
 have po:=Jl o
 have pp:=Jl p
 obtain⟨x1,x2,x3,x4,x5,x6,x7,x8,x9,x10,x11,x12,x13,x14,hx,⟨g1,g2,g3,g4,g5,g6,g7⟩,g8,g9,g10,g11,g12,g13,g14⟩:=Jy o
 obtain⟨y1,y2,y3,y4,y5,y6,y7,y8,y9,y10,y11,y12,y13,y14,hy,⟨k1,k2,k3,k4,k5,k6,k7⟩,k8,k9,k10,k11,k12,k13,k14⟩:=Jy p
 rw[hx]at c1 po ⊢
 rw[hy]at c2 pp ⊢
 unfold mix2F
 simp only[D.one]at g1 g2 g3 g4 g5 g6 g7 g8 g9 g10 g11 g12 g13 g14 k1 k2 k3 k4 k5 k6 k7 k8 k9 k10 k11 k12 k13 k14
 have:WO (Yb E (m+1) 144 [.agg [.int .i64 (numF o),x1,x2,x3,x4,x5,x6,x7,x8,x9,x10,x11,x12,x13,x14],.agg [.int .i64 (numF p),y1,y2,y3,y4,y5,y6,y7,y8,y9,y10,y11,y12,y13,y14]] []) λr T=>r=.bool (mixF o (numF p) && mixF p (numF o)):=by
  generalize mixF o (numF p)=b1 at*
  generalize mixF p (numF o)=b2 at*
  generalize numF o=no at*
  generalize numF p=np at*
  refine Ye Tryz.func144 rfl (by decide) rfl 15 rfl (λa hal ha=>?_)
  obtain⟨h0,h1⟩:=aQ2 ha
  clear ha
  cases b1
  ·simp only[push_cast,hal,h0,h1,c1,g1,g2,g3,g4,g5,g6,g7,g8,g9,g10,g11,g12,g13,g14,k1,k2,k3,k4,k5,k6,k7,k8,k9,k10,k11,k12,k13,k14,Tryz.f144,↓WX,simprocAttr,WY]
  ·simp only[push_cast,hal,h0,h1,c1,c2,g1,g2,g3,g4,g5,g6,g7,g8,g9,g10,g11,g12,g13,g14,k1,k2,k3,k4,k5,k6,k7,k8,k9,k10,k11,k12,k13,k14,Tryz.f144,↓WX,simprocAttr,WY]
 obtain⟨_,T,hr,rfl⟩:=this
 exact λst S=>Yd rfl (by simp only[Yc,Yg,po,pp,Ua]) hr rfl
end
section
variable {n : Nat}
theorem tmod_pos {a b:Int} (hb:0<b): -b<a.tmod b/\a.tmod b<b:=by
 rcases Int.le_total 0 a with h |h
 ·exact⟨by have:=Int.tmod_nonneg b h;omega,Int.tmod_lt_of_pos a hb⟩
 ·have h1:0<= -a:=by omega
  have h2:=Int.tmod_nonneg b h1
  have h3:=Int.tmod_lt_of_pos (-a) hb
  rw[Int.neg_tmod]at h2 h3
  omega
def P2 (i:Nat) (v:Int):Prop:=(i=0/\v=1)∨(i=1/\v=2)∨(i=2/\v=4)∨(i=3/\v=8)∨(i=4/\v=16)∨(i=5/\v=32)∨(i=6/\v=64)
end
def allE {α:Type} (f:α->α->Bool):List α->List α->Bool
 | [],[]=>true
 |x::xs,y::ys=>f x y && allE f xs ys
 |_,_=>false
theorem allE_drop {α:Type} {f:α->α->Bool} {a b:List α} {i:Nat} {x y:α} (hx:a[i]?=some x) (hy:b[i]?=some y):allE f (a.drop i) (b.drop i)=(f x y && allE f (a.drop (i+1)) (b.drop (i+1))):=by
 obtain⟨ha,rfl⟩:=Kr.1 hx
 obtain⟨hb,rfl⟩:=Kr.1 hy
 rw[List.drop_eq_getElem_cons ha,List.drop_eq_getElem_cons hb]
 rfl
theorem allE_end {α:Type} {f:α->α->Bool} {a b:List α} (h:a.length=b.length):allE f (a.drop a.length) (b.drop a.length)=true:=by
 rw[List.drop_of_length_le (Uk _),List.drop_of_length_le (by omega)]
 rfl
theorem allE_len {α:Type} {f:α->α->Bool}:∀ {a b:List α},a.length≠b.length->allE f a b=false
 | [],[],h=>(h rfl).elim
 | [],_::_,_=>rfl
 |_::_,[],_=>rfl
 |x::xs,y::ys,h=>by
  unfold allE
  rw[allE_len (a:=xs) (b:=ys) (by simp only[Uu]at h;omega),Bool.and_false]
def eqP (x y:Prt):Bool:=decide (x.fr=y.fr) && (decide (x.to=y.to) && (decide (x.fa=y.fa) && decide (x.am=y.am)))
def eqPr (x y:Int×Int):Bool:=decide (x.1=y.1) && decide (x.2=y.2)
def eqCh (x y:ByteArray×Int):Bool:=decide (x.1=y.1) && decide (x.2=y.2)
theorem plain_prt:plainEqT Tryz.prog 79=true:=by kernel_rfl
theorem plain_two:plainEqT Tryz.prog 91=true:=by kernel_rfl
theorem plain_chg:plainEqT Tryz.prog 93=true:=by kernel_rfl
theorem eq_prt (x y:Prt):dEq Tryz.prog 10000 79 (.agg [.int .i64 x.fr,.int .i64 x.to,.int .i64 x.fa,.int .i64 x.am]) (.agg [.int .i64 y.fr,.int .i64 y.to,.int .i64 y.fa,.int .i64 y.am])=some (eqP x y):=by
 rw[show (10000:Nat)=9998+1+1 from rfl]
 have hs:Tryz.prog.stoodInHeld 79=false:=by kernel_rfl
 unfold eqP
 by_cases e1:x.fr=y.fr <;> by_cases e2:x.to=y.to <;> by_cases e3:x.fa=y.fa <;> by_cases e4:x.am=y.am <;> simp(decide:=true)only[push_cast,dEq,dEqs,beq_self_eq_true,hs,e1,e2,e3,e4,decide_false,decide_true,Bool.true_and,Bool.false_and]
theorem eq_two (x y:Int×Int):dEq Tryz.prog 10000 91 (.agg [.int .i64 x.1,.int .i64 x.2]) (.agg [.int .i64 y.1,.int .i64 y.2])=some (eqPr x y):=by
 obtain⟨x1,x2⟩:=x
 obtain⟨y1,y2⟩:=y
 have hu:Tryz.prog.underlying 91=some (.array 2 3):=by kernel_rfl
 have h2:Yw Tryz.prog 3=some 1:=by kernel_rfl
 have hr:List.range 2=[0,1]:=rfl
 have ei:∀a b:Int,dEq Tryz.prog 9999 3 (.int .i64 a) (.int .i64 b)=some (a == b):=λa b=>by
  rw[show (9999:Nat)=9998+1 from rfl]
  simp only[push_cast,dEq,↓reduceIte]
 have p0:∀a b:Int,dPart Tryz.prog 3 [.int .i64 a,.int .i64 b] 0=some (.int .i64 a):=λa b=>by simp only[push_cast]
 have p1:∀a b:Int,dPart Tryz.prog 3 [.int .i64 a,.int .i64 b] 1=some (.int .i64 b):=λa b=>by simp only[push_cast]
 show dEq _ (9999+1) _ _ _=_
 generalize (9999:Nat)=d at*
 unfold dEq
 simp only[hu,h2]
 rw[hr]
 simp only[dEqA,Nat.zero_mul,Nat.one_mul,p0,p1,ei]
 unfold eqPr
 dsimp only
 by_cases e1:x1=y1 <;> by_cases e2:x2=y2 <;> simp only[beq_self_eq_true,e1,e2,int_beq,Bool.and_self,WY]
theorem eq_chg (x y:ByteArray×Int):dEq Tryz.prog 10000 93 (.agg [.str x.1,.int .i64 x.2]) (.agg [.str y.1,.int .i64 y.2])=some (eqCh x y):=by
 rw[show (10000:Nat)=9998+1+1 from rfl]
 have hs:Tryz.prog.stoodInHeld 93=false:=by kernel_rfl
 unfold eqCh
 by_cases e1:x.1=y.1 <;> by_cases e2:x.2=y.2 <;> simp(decide:=true)only[push_cast,dEq,dEqs,str_eq',hs,e1,e2,decide_false,decide_true,Bool.true_and,Bool.false_and]
section
variable {n : Nat}
def sameF (u v:Quo):Bool:=allE eqP u.parts v.parts && (allE eqPr u.pairs v.pairs && (allE eqCh u.taxes v.taxes && (decide (u.fare=v.fare) && decide (u.total=v.total))))
end
theorem ltP_asym:∀ {a b:List Prt},ltP a b=true->ltP b a=false
 | [],_,h=>by cases h
 |_::_,[],h=>by cases h
 |x::xs,y::ys,h=>by
  unfold ltP at h ⊢
  by_cases c1:x.to=y.to
  ·rw[if_pos c1]at h
   rw[if_pos c1.symm]
   by_cases c2:x.fa=y.fa
   ·rw[if_pos c2]at h
    rw[if_pos c2.symm]
    exact ltP_asym h
   ·rw[if_neg c2]at h
    rw[if_neg (λe=>c2 e.symm)]
    have:=Vb h
    exact Ud (by omega)
  ·rw[if_neg c1]at h
   rw[if_neg (λe=>c1 e.symm)]
   have:=Vb h
   exact Ud (by omega)
end Go.Proofs.YtaklebjoenophaaGreat.Dm
