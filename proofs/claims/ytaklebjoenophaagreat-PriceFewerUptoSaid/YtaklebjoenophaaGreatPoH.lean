/-
  The reference's rules and routings of a tariff, exactly: found in the list, or the zero value; links, and whether a way is allowed.
  The reference's distances: the list of what is reached, wherever it lies, and one step of it.
  The reference's miles between two places: it answers.
  The reference's miles of a way, and its surcharge: they answer; links of a routing.
  Whether a routing allows a way: the reference answers; the miles that a fare allows.
  The reference's cities of a way: a list.
  What a passenger pays by a rule: the reference answers.
  The miles that a fare allows, and the amount of a fare: the reference answers.
  Conditions of a rule: lists of texts and of numbers, exactly.
  The stay that a rule asks, and whether two rules combine: the reference, exactly.
  The reference's check of a tariff: some list.
  The reference's calendar and periods: weekdays, bits, whether a day is in a period, its days, what two have in common; UTC; dates as text. Some answer of each.
  Days of a period and conditions of a rule: the reference, exactly.
-/
import Derived.Test.YtaklebjoenophaaGreatPoA
import Derived.Test.YtaklebjoenophaaGreatTfA
import Derived.Test.YtaklebjoenophaaGreatPlA
import Derived.Test.YtaklebjoenophaaGreatTv
set_option maxHeartbeats 64000000
set_option maxRecDepth 100000
set_option linter.unusedSimpArgs false
set_option linter.unusedVariables false
namespace Go.Proofs.YtaklebjoenophaaGreat.Dm
open Go Gw
def rouD:Option Rou->D
 |some r=>.agg r.enc
 |none=>.agg [.int .i64 0,.nils,.int .i64 0]
theorem rouD_pure (o:Option Rou):(rouD o).pure=true:=by
 cases o with
 |none=>rfl
 |some r=>simp only[rouD,D.pure,Rou_pure]
def rulD:Option Rul->D
 |some r=>.agg r.enc
 |none=>.agg [.int .i64 0,.int .i64 0,.nils,.int .i64 0,.int .i64 0,.int .i64 0,.int .i64 0,.int .i64 0,.nils,.nils,.int .i64 0,.int .i64 0,.int .i64 0,.int .i64 0,.nils]
theorem rulD_pure (o:Option Rul):(rulD o).pure=true:=by
 cases o with
 |none=>rfl
 |some r=>simp only[rulD,D.pure,Rul_pure]
def linkF (s t:ByteArray):List (ByteArray×ByteArray)->Int->Int
 | [],_=> -1
 |x::xs,i=>if x.1=s/\x.2=t then i else linkF s t xs (i+1)
section
variable {n : Nat}
end
def SpI (c:ByteArray) (B:Nat) (T:List Ob) (d:D) (l:List (ByteArray×Int)):Prop:=
 (d=.sl 2 [encSp (c,0)] true/\l=[(c,0)])∨∃k,B<=k/\d=.os k 0 l.length false/\T[k]?=some (.row 2 (l.map encSp))
def KeepJ (B:Nat) (T U:List Ob):Prop:=∀j o,(j<B∨∀es,o≠.row 2 es)->T[j]?=some o->U[j]?=some o
theorem KeepJ.refl {B:Nat} {T:List Ob}:KeepJ B T T:=λ_ _ _ h=>h
theorem KeepJ.trans {B:Nat} {T U V:List Ob} (h:KeepJ B T U) (g:KeepJ B U V):KeepJ B T V:=λj o c k=>g j o c (h j o c k)
theorem SpI.push {c:ByteArray} {B:Nat} {T:List Ob} {d:D} {l:List (ByteArray×Int)} (h:SpI c B T d l) (o:Ob):SpI c B (T++[o]) d l:=by
 rcases h with h | ⟨k,h1,h2,h3⟩
 ·exact .inl h
 ·exact .inr ⟨k,h1,h2,get_old h3⟩
section
variable {n : Nat}
end
def nsF (c:ByteArray) (l:List Dst):List ByteArray:=c::l.flatMap λx=>[x.fr,x.to]
theorem nsF_len (c:ByteArray) (l:List Dst):(nsF c l).length=2*l.length+1:=by
 unfold nsF
 rw[Zd]
 congr 1
 induction l with
 |nil=>rfl
 |cons x xs ih=>rw[List.flatMap_cons,Yd,ih,Zd];simp;omega
theorem nsF_fr {c:ByteArray} {l:List Dst} {x:Dst} (h:x∈l):x.fr∈nsF c l:=Yv _ (List.mem_flatMap.2 ⟨x,h,by simp⟩)
theorem nsF_to {c:ByteArray} {l:List Dst} {x:Dst} (h:x∈l):x.to∈nsF c l:=Yv _ (List.mem_flatMap.2 ⟨x,h,by simp⟩)
section
variable {n : Nat}
end
section
variable {n : Nat}
end
section
variable {n : Nat}
end
def citF (p:Plc) (l:List Wnt):List ByteArray:=match l with
 | []=>[]
 |w::ws=>cityS p w.fr::(w::ws).map λw=>cityS p w.to
theorem citF_add (p:Plc) {l:List Wnt} (x:Wnt) (h:l≠[]):citF p (l++[x])=citF p l++[cityS p x.to]:=by
 cases l with
 |nil=>exact (h rfl).elim
 |cons w ws=>simp only[citF,Ze,Zh,List.map_append,List.map_nil]
theorem citF_len (p:Plc) {l:List Wnt} (h:l≠[]):(citF p l).length=l.length+1:=by
 cases l with
 |nil=>exact (h rfl).elim
 |cons w ws=>simp only[citF,Zd,Yz]
section
variable {n : Nat}
end
section
variable {n : Nat}
end
section
variable {n : Nat}
end
theorem fls_pure {α:Type} {sz:Nat} {enc:α->List D} {d:D} {l:List α} (h:FLs sz enc d l) (hp:pureLL (l.map enc)=true):d.pure=true:=by
 rcases h with ⟨rfl,-⟩ | ⟨x,rfl⟩
 ·rfl
 ·simp only[D.pure,hp]
theorem fls_one {α:Type} {sz:Nat} {enc:α->List D} {d:D} {l:List α} (h:FLs sz enc d l):d.one=true:=by
 rcases h with ⟨rfl,-⟩ | ⟨x,rfl⟩ <;> rfl
theorem fls_len {α:Type} {sz:Nat} {enc:α->List D} {S:List Ob} {d:D} {l:List α} {t e:TypeId} (ht:Tryz.prog.underlying t=some (.slice e)) (h:FLs sz enc d l):dLen Tryz.prog S t d=some (.int .i64 l.length):=by
 unfold dLen
 rw[ht]
 rcases h with ⟨rfl,rfl⟩ | ⟨x,rfl⟩
 ·rfl
 ·dsimp only
  rw[Yz]
theorem encZs_pure' (l:List Int):pureLL (l.map encZ)=true:=by
 induction l with
 |nil=>rfl
 |cons f fs ih=>rw[Zh,pureLL_cons,ih];rfl
section
variable {n : Nat}
end
def stayF (mn mx u v:Int):Int:=if u<0∨36525<=u∨v<0∨36525<=v then 12 else if v-u<mn∨(0<mx/\mx<v-u) then 24 else 0
def stayR (o:Option Rul) (u v:Int):Int:=match o with |none=>stayF 0 0 u v |some r=>stayF r.mins r.maxs u v
def mixF (o:Option Rul) (v:Int):Bool:=match o with |none=>true |some r=>(r.comb.any λx=>decide (x=v)) || decide ((r.comb.length:Int)=0)
def numF (o:Option Rul):Int:=match o with |none=>0 |some r=>r.num
def mix2F (a b:Option Rul):Bool:=mixF a (numF b) && mixF b (numF a)
section
variable {n : Nat}
theorem rul_lit (o:Option Rul):∃c1 c2 c3 c4 c5 c6 c7 c8 c9 c10 c11 c12 c13 c14:D,rulD o=.agg [.int .i64 (numF o),c1,c2,c3,c4,c5,c6,c7,c8,c9,c10,c11,c12,c13,c14]/\(c1.one=true/\c2.one=true/\c3.one=true/\c4.one=true/\c5.one=true/\c6.one=true/\c7.one=true)/\c8.one=true/\c9.one=true/\c10.one=true/\c11.one=true/\c12.one=true/\c13.one=true/\c14.one=true:=by
 cases o with
 |none=>exact⟨_,_,_,_,_,_,_,_,_,_,_,_,_,_,rfl,⟨rfl,rfl,rfl,rfl,rfl,rfl,rfl⟩,rfl,rfl,rfl,rfl,rfl,rfl,rfl⟩
 |some r=>
  obtain⟨w,hw⟩:∃w,r.when=w:=⟨_,rfl⟩
  have hxe:Rul.enc r=.int .i64 r.num::(w.enc++[.sl 1 (r.comb.map encZ) r.combx,.int .i64 r.mins,.int .i64 r.maxs,.int .i64 r.chg,.int .i64 r.ref,.sl 2 (r.pcs.map encPc) r.pcx]):=by rw[<-hw];rfl
  cases w with |mk k' l' lx' u' v' pf' pt' pd' t' tx'=>?_
  simp only[Cnd.enc,Ze,Zz]at hxe
  simp only[rulD,hxe,numF]
  exact⟨_,_,_,_,_,_,_,_,_,_,_,_,_,_,rfl,⟨rfl,rfl,rfl,rfl,rfl,rfl,rfl⟩,rfl,rfl,rfl,rfl,rfl,rfl,rfl⟩
end
theorem cgenT {call:Call} {st:Bool} {S:List Ob} {f:FuncId} {args:List D} {r:Option (D×List Ob)} (hm:E.mode f=.gen) (h:call f args S=r):callD E call st S f args=r:=by
 unfold callD
 rw[hm]
 exact h
theorem not_fault2s {z:Nat} {es:List (List D)} {x:Bool} {d:D}:¬FaultOb (.row 2 [[.sl z es x,d]]):=by
 rintro⟨fs,h⟩
 injection h with _ h
 cases fs with
 |nil=>cases h
 |cons f fs=>
  rw[Zh]at h
  injection h with h _
  simp[encF]at h
structure TrfB (t:Trf):Prop where
 fl:t.fares.length<=100
 rl:t.rules.length<=100
 ol:t.rous.length<=100
 tl:t.taxes.length<=100
 fb:∀f∈t.fares,f.car.size<=1048576/\f.bas.size<=1048576/\f.cls.size<=1048576
 rb:∀r∈t.rules,RulB r
 ob:∀r∈t.rous,r.links.length<=1048576/\∀x∈r.links,x.1.size<=1048576/\x.2.size<=1048576
 tb:∀x∈t.taxes,TxB x
def fareT:ByteArray:=ByteArray.mk #[102,97,114,101,32]
def ruleT:ByteArray:=ByteArray.mk #[114,117,108,101,32]
def routT:ByteArray:=ByteArray.mk #[114,111,117,116,105,110,103,32]
theorem Rul_lit (x:Rul):∃c0 c1 c2 c3 c4 c5 c6 c7 c8 c9 c10 c11 c12 c13,x.enc=[.int .i64 x.num,c0,c1,c2,c3,c4,c5,c6,c7,c8,c9,c10,c11,c12,c13]:=by
 obtain⟨nu,w,cb,cx,mi,ma,ch,re,pc,px⟩:=x
 cases w
 exact⟨_,_,_,_,_,_,_,_,_,_,_,_,_,_,rfl⟩
theorem stepsB (a b m:Nat):∃F:Nat->Nat,F 0=a/\(∀i,F (i+1)=F i+b)/\∀i,i<=m->F i<=a+m*b:=
 ⟨λi=>a+i*b,by simp,λi=>by show a+(i+1)*b=a+i*b+b;rw[Nat.succ_mul,Nat.add_assoc],λi hi=>Nat.add_le_add_left (Zj b hi) a⟩
section
variable {n : Nat}
theorem inner24_d {S:List Ob} {d x:D} {fs:List (Int×ByteArray)} {tx:ByteArray} {m:Nat} {P Q:Prop} (h:GL 2 encF S d fs) (hz:SZ P fs 60) (hx:FRP Q x m 30) (ha:tx.size<=20) (hl:fs.length<=1000000000000) (hm:m<=6000000) (hn:6000010<=n):
  WO (dcall E (n+1) 45 [d,.str tx,x] S) λr T=>∃fs',GL 2 encF T r fs'/\fs'.length<=fs.length+m/\SZ (P/\Q) fs' 60/\KeepF S T:=by
 obtain⟨gs,hg,hgl,hgz⟩:=hx
 refine wo_dcall Tryz.func45 rfl (by decide) rfl 32 rfl (λa hal ha=>?_)
 have h0:a[0]?=some _:=ha 0 (by simp)
 have h1:a[1]?=some _:=ha 1 (by simp)
 have h2:a[2]?=some _:=ha 2 (by simp)
 clear ha
 have hs1:(ByteArray.mk #[32]).size=1:=rfl
 have m1:=mx_of (a:=tx) (b:=ByteArray.mk #[32]) (by omega)
 rcases hg with ⟨rfl,rfl⟩ | ⟨y,rfl⟩
 ·simp only[push_cast,↓WX,simprocAttr]
  refine wl_loop (λi a T=>(i=0/\T=S)/\a.length=32/\a[0]?=some (d)/\a[1]?=some (.str tx)/\a[2]?=some (.nils)/\a[7]?=some (.int .i64 i)) 0 ?_ (by omega) ?_
  ·simp only[push_cast,hal,h0,h1,h2,simprocAttr,WY]
  rintro i a T hi ⟨⟨rfl,rfl⟩,hal,h0,h1,h2,h7⟩
  simp only[push_cast,hal,h0,h2,h7,Tryz.f45,↓WX,simprocAttr,WY]
  exact⟨_,h,by omega,hz.mono λe=>⟨e,hgz.2 rfl⟩,KeepF.refl⟩
 ·obtain⟨K,hK⟩:∃K:Nat->Prop,∀i,K i↔i=0:=⟨λi=>i=0,λ_=>Iff.rfl⟩
  simp only[push_cast,↓WX,simprocAttr]
  refine wl_loop (λi a T=>(KeepF S T/\FSP (P/\K i) T a[0]? (fs.length+i) 60)/\a.length=32/\a[1]?=some (.str tx)/\a[2]?=some (.sl 2 (gs.map encF) y)/\a[7]?=some (.int .i64 i)) gs.length ?_ (by omega) ?_
  ·simp only[push_cast,hal,h0,h1,h2,FSP,simprocAttr,WY]
   exact⟨KeepF.refl,_,_,rfl,h,Yt _,hz.mono λe=>⟨e,(hK 0).2 rfl⟩⟩
  rintro i a T hi ⟨⟨k1,d1,fs1,h0,g1,l1,z1⟩,hal,h1,h2,h7⟩
  rcases Yf hi with hlt |rfl
  case inr=>
   simp only[push_cast,hal,h0,h2,h7,Tryz.f45,↓WX,simprocAttr,WY]
   exact⟨_,g1,by omega,z1.mono λe=>⟨e.1,hgz.2 (Yp ((hK _).1 e.2))⟩,k1⟩
  obtain⟨f,hf⟩:∃f,gs[i]?=some f:=⟨gs[i],by simp⟩
  have hfz:=hgz.1 f (Yg hf)
  have hltc:(i:Int)<gs.length:=by omega
  have m2:=mx_of (a:=tx++ByteArray.mk #[32]) (b:=f.2) (by rw[ba_len];omega)
  obtain⟨d2,T2,fs2,p2,q2,g2,l2,z2,k2⟩:=app_sP g1 (by omega) z1 true f.1 (tx++ByteArray.mk #[32]++f.2) (by rw[ba_len,ba_len];omega)
  have w2:=(p2 rfl).2
  replace p2:=(p2 rfl).1
  simp(maxSteps:=1000000)(disch:=omega)only[push_cast,Zx,hal,h0,h1,h2,h7,hltc,hlt,hf,m1,m2,p2,encF,wrap_ok,Int.natCast_add,Int.natCast_one,FSP,↓WX,simprocAttr]
  exact⟨k1.trans k2,_,_,rfl,g2,by omega,w2.any⟩
theorem Check24_d {p:Plc} {t:Trf} (hap:p.aps.length<=1048576) (hb:TrfB t) (hn:7000000<=n):
  WO (dcall E (n+1) 21 [.agg p.enc,.agg t.enc] []) λd T=>∃fs,GL 2 encF T d fs/\fs.length<=1000000000/\SZ ((∀f∈t.fares,0<=f.amt/\f.amt<=1099511627776)/\∀r∈t.rules,(∀p∈r.pcs,0<=p.2/\p.2<=1000)/\r.when.KG) fs 60:=by
 obtain⟨hb1,hb2,hb3,hb4,hb5,hb6,hb7,hb8⟩:=hb
 have cf:=λf hf=>fare24_c (n:=n) (p:=p) (t:=t) (f:=f) hap (by omega) (by omega) (hb5 f hf).1 (hb5 f hf).2.1 (hb5 f hf).2.2 (by omega)
 obtain⟨fl,fx,rl,rx,ol,ox,tl,tx⟩:=t
 dsimp only at hb1 hb2 hb3 hb5 hb6 hb7 cf ⊢
 obtain⟨PF,hF0,hFs,hFl⟩:=takeP fl λf=>0<=f.amt/\f.amt<=1099511627776
 obtain⟨PR,hR0,hRs,hRl⟩:=takeP rl λr=>(∀p∈r.pcs,0<=p.2/\p.2<=1000)/\r.when.KG
 obtain⟨K,hK⟩:∃K:Nat->Prop,∀i,K i↔i=0:=⟨λi=>i=0,λ_=>Iff.rfl⟩
 generalize hQF:(∀f∈fl,0<=f.amt/\f.amt<=1099511627776)=QF at*
 generalize hQR:(∀r∈rl,(∀p∈r.pcs,0<=p.2/\p.2<=1000)/\r.when.KG)=QR at*
 simp only[Plc.enc,Trf.enc]at cf ⊢
 generalize p.aps.map Apt.enc=ae at*
 generalize p.dts.map Dst.enc=de at*
 generalize tl.map Tx.enc=te at*
 refine wo_dcall Tryz.func21 rfl (by decide) rfl 150 rfl (λa hal ha=>?_)
 have h0:a[0]?=some _:=ha 0 (by simp)
 have h1:a[1]?=some _:=ha 1 (by simp)
 clear ha
 obtain⟨S0,hS0⟩:∃S0,S0=[Ob.row 2 [[.sl 5 ae p.apsx,.sl 3 de p.dtsx]],Ob.row 4 [[.sl 9 (fl.map Far.enc) fx,.sl 15 (rl.map Rul.enc) rx,.sl 3 (ol.map Rou.enc) ox,.sl 7 te tx]]]:=⟨_,rfl⟩
 have ga:S0[0]?=some (.row 2 [[.sl 5 ae p.apsx,.sl 3 de p.dtsx]]):=by rw[hS0];rfl
 have gb:S0[1]?=some (.row 4 [[.sl 9 (fl.map Far.enc) fx,.sl 15 (rl.map Rul.enc) rx,.sl 3 (ol.map Rou.enc) ox,.sl 7 te tx]]):=by rw[hS0];rfl
 have na:¬FaultOb (.row 2 [[.sl 5 ae p.apsx,.sl 3 de p.dtsx]]):=not_fault2s
 have nb:¬FaultOb (.row 4 [[.sl 9 (fl.map Far.enc) fx,.sl 15 (rl.map Rul.enc) rx,.sl 3 (ol.map Rou.enc) ox,.sl 7 te tx]]):=not_fault4
 have hsf:fareT.size=5:=rfl
 have hsr:ruleT.size=5:=rfl
 have hso:routT.size=8:=rfl
 refine wc_scut (λa V=>V=S0/\a.length=150/\a[2]?=some (.loc 0 0 0)/\a[3]?=some (.loc 1 0 0)) ?_ ?_
 ·simp only[push_cast,hal,h0,h1,↓WX,simprocAttr]
  exact hS0.symm
 rintro a V ⟨rfl,hal,h2,h3⟩
 refine wc_scut (λa W=>W=V/\a.length=150/\a[2]?=some (.loc 0 0 0)/\a[3]?=some (.loc 1 0 0)/\a[5]?=some (.nils)) ?_ ?_
 ·simp only[push_cast,hal,h2,h3,↓WX,simprocAttr]
 rintro a W ⟨rfl,hal,h2,h3,h5⟩
 refine wc_scut (λa V=>V=W/\a.length=150/\a[2]?=some (.loc 0 0 0)/\a[3]?=some (.loc 1 0 0)/\a[5]?=some (.nils)) ?_ ?_
 ·have q:¬(512:Int)<fl.length:=by omega
  simp only[push_cast,Zx,hal,h2,h3,h5,gb,q,↓WX,simprocAttr]
 rintro a V ⟨rfl,hal,h2,h3,h5⟩
 refine wc_scut (λa V'=>(KeepF V V'/\FSP QF V' a[5]? 600 60)/\a.length=150/\a[2]?=some (.loc 0 0 0)/\a[3]?=some (.loc 1 0 0)) ?_ ?_
 ·simp only[push_cast,↓WX,simprocAttr]
  refine wl_loop (λi a V'=>(KeepF V V'/\FSP (PF i) V' a[5]? (6*i) 60)/\a.length=150/\a[2]?=some (.loc 0 0 0)/\a[3]?=some (.loc 1 0 0)/\a[6]?=some (.int .i64 i)) fl.length ?_ (by omega) ?_
  ·simp only[push_cast,hal,h2,h3,h5,FSP,simprocAttr,WY]
   exact⟨KeepF.refl,_,[],rfl,GL.nil,Xb _,SZ.nil hF0⟩
  rintro i a T hi ⟨⟨k1,d,fs,h5,g1,l1,z1⟩,hal,h2,h3,h6⟩
  have va:=k1 _ _ na ga
  have vb:=k1 _ _ nb gb
  rcases Yf hi with hlt |rfl
  case inr=>
   simp only[push_cast,hal,h2,h3,h5,h6,vb,FSP,↓WX,simprocAttr,WY]
   exact⟨k1,_,_,rfl,g1,by omega,z1.mono hFl⟩
  obtain⟨f,hf⟩:∃f,fl[i]?=some f:=⟨fl[i],by simp⟩
  have hltc:(i:Int)<fl.length:=by omega
  obtain⟨q,hq,cq⟩:=Wb.rdecW (n:=n) (i:=i) (by omega) (by omega)
  have mq:=mx_of (a:=fareT) (b:=q) (by omega)
  have hat:(fareT++q).size<=60:=by rw[ba_len];omega
  obtain⟨de',⟨es,hde,hel,hep⟩,cfa⟩:=cf f (Yg hf)
  have hfe:Far.enc f=[.str f.car,.str f.frm,.str f.dst,.str f.bas,.str f.cls,.bool f.rnd,.int .i64 f.amt,.int .i64 f.rul,.int .i64 f.rou]:=rfl
  rw[hfe]at cfa
  refine wc_scut (λa V=>V=T/\a.length=150/\a[2]?=some (.loc 0 0 0)/\a[3]?=some (.loc 1 0 0)/\a[5]?=some (d)/\a[6]?=some (.int .i64 i)) ?_ ?_
  ·simp only[push_cast,hal,h2,h3,h5,h6,vb,hltc,↓WX,simprocAttr]
  rintro a V' ⟨rfl,hal,h2,h3,h5,h6⟩
  rw[wc_seq,wc_block]
  refine wc_scut (λa W=>W=V'/\a.length=150/\a[2]?=some (.loc 0 0 0)/\a[3]?=some (.loc 1 0 0)/\a[5]?=some (d)/\a[6]?=some (.int .i64 i)/\a[7]?=some (de')) ?_ ?_
  ·simp only[push_cast,hal,h2,h3,h5,h6,va,vb,hf,hfe,cfa,↓WX,simprocAttr]
  rintro a W ⟨rfl,hal,h2,h3,h5,h6,h7⟩
  rcases hde with ⟨rfl,rfl⟩ | ⟨y,rfl⟩
  ·simp only[push_cast,↓WX,simprocAttr]
   refine wl_loop (λk a T=>(k=0/\T=W)/\a.length=150/\a[2]?=some (.loc 0 0 0)/\a[3]?=some (.loc 1 0 0)/\a[5]?=some (d)/\a[6]?=some (.int .i64 i)/\a[7]?=some (.nils)/\a[8]?=some (.int .i64 k)) 0 ?_ (by omega) ?_
   ·simp only[push_cast,hal,h2,h3,h5,h6,h7,simprocAttr,WY]
   rintro k a T hk ⟨⟨rfl,rfl⟩,hal,h2,h3,h5,h6,h7,h8⟩
   simp(maxSteps:=1000000)(disch:=omega)only[push_cast,hal,h2,h3,h5,h6,h7,h8,Int.natCast_zero,Int.lt_irrefl,wrap_ok,Int.natCast_add,Int.natCast_one,FSP,↓WX,simprocAttr]
   exact⟨hlt,k1,_,_,rfl,g1,by omega,z1.mono λe=>hFs i f hf e (hep rfl)⟩
  ·simp(maxSteps:=1000000)(disch:=omega)only[push_cast,↓WX,simprocAttr]
   refine wl_loop (λk a T=>(KeepF W T/\FSP (PF i/\K k) T a[5]? (6*i+k) 60)/\a.length=150/\a[2]?=some (.loc 0 0 0)/\a[3]?=some (.loc 1 0 0)/\a[6]?=some (.int .i64 i)/\a[7]?=some (.sl 1 (es.map encI) y)/\a[8]?=some (.int .i64 k)) es.length ?_ (by omega) ?_
   ·simp only[push_cast,hal,h2,h3,h5,h6,h7,FSP,simprocAttr,WY]
    exact⟨KeepF.refl,_,_,rfl,g1,by omega,z1.mono λe=>⟨e,(hK 0).2 rfl⟩⟩
   rintro k a T hk ⟨⟨k2,d2,fs2,h5,g2,l2,z2⟩,hal,h2,h3,h6,h7,h8⟩
   rcases Yf hk with hkt |rfl
   case inr=>
    simp(maxSteps:=1000000)(disch:=omega)only[push_cast,hal,h2,h3,h5,h6,h7,h8,Int.lt_irrefl,wrap_ok,Int.natCast_add,Int.natCast_one,FSP,↓WX,simprocAttr]
    exact⟨hlt,k1.trans k2,_,_,rfl,g2,by omega,z2.mono λe=>hFs i f hf e.1 (hep (Yp ((hK _).1 e.2)))⟩
   obtain⟨x,hx⟩:∃x,es[k]?=some x:=⟨es[k],by simp⟩
   have hktc:(k:Int)<es.length:=by omega
   obtain⟨d3,T3,fs3,p3,q3,g3,l3,z3,k3⟩:=app_sP g2 (by omega) z2 true x (fareT++q) hat
   have w3:=(p3 rfl).2
   replace p3:=(p3 rfl).1
   unfold fareT at mq p3
   simp(maxSteps:=1000000)(disch:=omega)only[push_cast,Zx,hal,h2,h3,h5,h6,h7,h8,hktc,hkt,hx,cq,mq,p3,encI,wrap_ok,Int.natCast_add,Int.natCast_one,FSP,↓WX,simprocAttr]
   exact⟨k2.trans k3,_,_,rfl,g3,by omega,w3.any⟩
 rintro a V1 ⟨⟨k1,d1,fs1,h5,g1,l1,z1⟩,hal,h2,h3⟩
 obtain⟨F,hF1,hF2,hF3⟩:=stepsB 600 6000001 100
 refine wc_scut (λa V'=>(KeepF V V'/\FSP (QF/\QR) V' a[5]? 700000000 60)/\a.length=150/\a[2]?=some (.loc 0 0 0)/\a[3]?=some (.loc 1 0 0)) ?_ ?_
 ·simp only[push_cast,↓WX,simprocAttr]
  refine wl_loop (λi a V'=>(KeepF V V'/\FSP (QF/\PR i) V' a[5]? (F i) 60)/\a.length=150/\a[2]?=some (.loc 0 0 0)/\a[3]?=some (.loc 1 0 0)/\a[9]?=some (.int .i64 i)) rl.length ?_ (by omega) ?_
  ·simp only[push_cast,hal,h2,h3,h5,FSP,simprocAttr,WY]
   exact⟨k1,_,_,rfl,g1,by omega,z1.mono λe=>⟨e,hR0⟩⟩
  clear k1 g1 l1 z1
  rintro i a T hi ⟨⟨k1,d,fs,h5,g1,l1,z1⟩,hal,h2,h3,h9⟩
  have vb:=k1 _ _ nb gb
  have hFb:=hF3 i (by omega)
  rcases Yf hi with hlt |rfl
  case inr=>
   simp only[push_cast,hal,h2,h3,h5,h9,vb,FSP,↓WX,simprocAttr,WY]
   exact⟨k1,_,_,rfl,g1,by omega,z1.mono λe=>⟨e.1,hRl e.2⟩⟩
  obtain⟨x,hx⟩:∃x,rl[i]?=some x:=⟨rl[i],by simp⟩
  have hltc:(i:Int)<rl.length:=by omega
  obtain⟨q,hq,cq⟩:=Wb.rdecW (n:=n) (i:=i) (by omega) (by omega)
  have mq:=mx_of (a:=ruleT) (b:=q) (by omega)
  have hat:(ruleT++q).size<=20:=by rw[ba_len];omega
  obtain⟨dc,hdc,cc⟩:=Check21_c (n:=n) (hb6 x (Yg hx)) (by omega)
  obtain⟨x0,x1,x2,x3,x4,x5,x6,x7,x8,x9,x10,x11,x12,x13,hxe⟩:=Rul_lit x
  rw[hxe]at cc
  refine wc_scut (λa V=>V=T/\a.length=150/\a[2]?=some (.loc 0 0 0)/\a[3]?=some (.loc 1 0 0)/\a[5]?=some (d)/\a[9]?=some (.int .i64 i)) ?_ ?_
  ·simp only[push_cast,hal,h2,h3,h5,h9,vb,hltc,↓WX,simprocAttr]
  rintro a V' ⟨rfl,hal,h2,h3,h5,h9⟩
  rw[wc_seq,wc_block]
  refine wc_scut (λa W=>W=V'/\a.length=150/\a[2]?=some (.loc 0 0 0)/\a[3]?=some (.loc 1 0 0)/\a[5]?=some (d)/\a[9]?=some (.int .i64 i)/\a[10]?=some (.str (ruleT++q))/\a[11]?=some (.bool false)) ?_ ?_
  ·unfold ruleT at mq ⊢
   simp only[push_cast,Zx,hal,h2,h3,h5,h9,cq,mq,↓WX,simprocAttr]
  clear mq
  generalize ruleT++q=at0 at*
  rintro a W ⟨rfl,hal,h2,h3,h5,h9,h10,h11⟩
  refine wc_scut (λa V=>(V=W/\∃b,a[11]?=some (.bool b))/\a.length=150/\a[2]?=some (.loc 0 0 0)/\a[3]?=some (.loc 1 0 0)/\a[5]?=some (d)/\a[9]?=some (.int .i64 i)/\a[10]?=some (.str at0)) ?_ ?_
  ·simp only[push_cast,↓WX,simprocAttr]
   refine wl_loop (λk a V=>(V=W/\∃b,a[11]?=some (.bool b))/\a.length=150/\a[2]?=some (.loc 0 0 0)/\a[3]?=some (.loc 1 0 0)/\a[5]?=some (d)/\a[9]?=some (.int .i64 i)/\a[10]?=some (.str at0)/\a[12]?=some (.int .i64 k)) i ?_ (by omega) ?_
   ·simp only[push_cast,hal,h2,h3,h5,h9,h10,h11,simprocAttr,WY]
    exact⟨_,rfl⟩
   rintro k a V hk ⟨⟨rfl,b,h11⟩,hal,h2,h3,h5,h9,h10,h12⟩
   rcases Yf hk with hkt |rfl
   case inr=>
    simp only[push_cast,hal,h2,h3,h5,h9,h10,h11,h12,↓WX,simprocAttr,WY]
    exact⟨_,rfl⟩
   obtain⟨y,hy⟩:∃y,rl[k]?=some y:=⟨rl[k]'(by omega),by simp⟩
   have hktc:(k:Int)<i:=by omega
   have hkl:k<rl.length:=by omega
   obtain⟨y0,y1,y2,y3,y4,y5,y6,y7,y8,y9,y10,y11,y12,y13,hye⟩:=Rul_lit y
   cases b
   ·simp(maxSteps:=1000000)(disch:=omega)only[push_cast,hal,h2,h3,h5,h9,h10,h11,h12,vb,hktc,hkt,hx,hy,hxe,hye,wrap_ok,Int.natCast_add,Int.natCast_one,↓WX,simprocAttr]
    exact⟨_,rfl⟩
   ·simp(maxSteps:=1000000)(disch:=omega)only[push_cast,hal,h2,h3,h5,h9,h10,h11,h12,hktc,hkt,wrap_ok,Int.natCast_add,Int.natCast_one,↓WX,simprocAttr]
    exact⟨_,rfl⟩
  rintro a V ⟨⟨rfl,b,h11⟩,hal,h2,h3,h5,h9,h10⟩
  refine wc_scut (λa V'=>(KeepF V V'/\FSP (QF/\PR i) V' a[5]? (F i+1) 60)/\a.length=150/\a[2]?=some (.loc 0 0 0)/\a[3]?=some (.loc 1 0 0)/\a[9]?=some (.int .i64 i)/\a[10]?=some (.str at0)) ?_ ?_
  ·obtain⟨d2,T2,fs2,p2,q2,g2,l2,z2,k2⟩:=app_sP g1 (by omega) z1 b 6 at0 (by omega)
   cases b
   ·simp only[push_cast,hal,h2,h3,h5,h9,h10,h11,FSP,↓WX,simprocAttr]
    exact⟨KeepF.refl,_,_,rfl,g1,by omega,z1⟩
   ·replace p2:=(p2 rfl).1
    simp only[push_cast,hal,h2,h3,h5,h9,h10,h11,p2,FSP,↓WX,simprocAttr]
    exact⟨k2,_,_,rfl,g2,by omega,z2⟩
  rintro a V2 ⟨⟨k2,d2,fs2,h5,g2,l2,z2⟩,hal,h2,h3,h9,h10⟩
  have wb:=k2 _ _ nb vb
  obtain⟨m,rfl⟩:∃m,n=m+1:=⟨n-1,by omega⟩
  obtain⟨r,T3,ho,fs3,g3,l3,z3,k3⟩:=inner24_d (n:=m) (tx:=at0) g2 z2 hdc hat (by omega) (by omega) (by omega)
  have ci:=λst=>cgenT (st:=st) (f:=45) rfl ho
  simp(maxSteps:=1000000)(disch:=omega)only[push_cast,hal,h2,h3,h5,h9,h10,wb,hlt,hx,hxe,cc,ci,wrap_ok,Int.natCast_add,Int.natCast_one,FSP,↓WX,simprocAttr]
  have hFi:=hF2 i
  exact⟨(k1.trans k2).trans k3,_,_,rfl,g3,by omega,z3.mono λe=>⟨e.1.1,hRs i x hx e.1.2 e.2⟩⟩
 clear k1 g1 l1 z1
 rintro a V1 ⟨⟨k1,d1,fs1,h5,g1,l1,z1⟩,hal,h2,h3⟩
 refine wc_scut (λa V'=>(KeepF V V'/\FSP (QF/\QR) V' a[5]? 1000000000 60)/\a.length=150/\a[2]?=some (.loc 0 0 0)/\a[3]?=some (.loc 1 0 0)) ?_ ?_
 ·simp only[push_cast,↓WX,simprocAttr]
  refine wl_loop (λi a V'=>(KeepF V V'/\FSP (QF/\QR) V' a[5]? (700000000+401*i) 60)/\a.length=150/\a[2]?=some (.loc 0 0 0)/\a[3]?=some (.loc 1 0 0)/\a[13]?=some (.int .i64 i)) ol.length ?_ (by omega) ?_
  ·simp only[push_cast,hal,h2,h3,h5,FSP,simprocAttr,WY]
   exact⟨k1,_,_,rfl,g1,l1,z1⟩
  clear k1 g1 l1 z1
  rintro i a T hi ⟨⟨k1,d,fs,h5,g1,l1,z1⟩,hal,h2,h3,h13⟩
  have vb:=k1 _ _ nb gb
  rcases Yf hi with hlt |rfl
  case inr=>
   simp only[push_cast,hal,h2,h3,h5,h13,vb,FSP,↓WX,simprocAttr,WY]
   exact⟨k1,_,_,rfl,g1,by omega,z1⟩
  obtain⟨x,hx⟩:∃x,ol[i]?=some x:=⟨ol[i],by simp⟩
  have hltc:(i:Int)<ol.length:=by omega
  obtain⟨q,hq,cq⟩:=Wb.rdecW (n:=n) (i:=i) (by omega) (by omega)
  have mq:=mx_of (a:=routT) (b:=q) (by omega)
  have hat:(routT++q).size<=20:=by rw[ba_len];omega
  have hxb:=hb7 x (Yg hx)
  obtain⟨dc,⟨gsc,hgc,hlc,hzc⟩,cc⟩:=Check22_c (n:=n) (nu:=x.num) (mi:=x.miles) (l:=x.links) (lx:=x.linksx) hxb.1 hxb.2 (by omega)
  have hxe:Rou.enc x=[.int .i64 x.num,.sl 2 (x.links.map encLk) x.linksx,.int .i64 x.miles]:=rfl
  refine wc_scut (λa V=>V=T/\a.length=150/\a[2]?=some (.loc 0 0 0)/\a[3]?=some (.loc 1 0 0)/\a[5]?=some (d)/\a[13]?=some (.int .i64 i)) ?_ ?_
  ·simp only[push_cast,hal,h2,h3,h5,h13,vb,hltc,↓WX,simprocAttr]
  rintro a V' ⟨rfl,hal,h2,h3,h5,h13⟩
  rw[wc_seq,wc_block]
  refine wc_scut (λa W=>W=V'/\a.length=150/\a[2]?=some (.loc 0 0 0)/\a[3]?=some (.loc 1 0 0)/\a[5]?=some (d)/\a[13]?=some (.int .i64 i)/\a[14]?=some (.str (routT++q))/\a[15]?=some (.bool false)) ?_ ?_
  ·unfold routT at mq ⊢
   simp only[push_cast,Zx,hal,h2,h3,h5,h13,cq,mq,↓WX,simprocAttr]
  clear mq
  generalize routT++q=at0 at*
  rintro a W ⟨rfl,hal,h2,h3,h5,h13,h14,h15⟩
  refine wc_scut (λa V=>(V=W/\∃b,a[15]?=some (.bool b))/\a.length=150/\a[2]?=some (.loc 0 0 0)/\a[3]?=some (.loc 1 0 0)/\a[5]?=some (d)/\a[13]?=some (.int .i64 i)/\a[14]?=some (.str at0)) ?_ ?_
  ·simp only[push_cast,↓WX,simprocAttr]
   refine wl_loop (λk a V=>(V=W/\∃b,a[15]?=some (.bool b))/\a.length=150/\a[2]?=some (.loc 0 0 0)/\a[3]?=some (.loc 1 0 0)/\a[5]?=some (d)/\a[13]?=some (.int .i64 i)/\a[14]?=some (.str at0)/\a[16]?=some (.int .i64 k)) i ?_ (by omega) ?_
   ·simp only[push_cast,hal,h2,h3,h5,h13,h14,h15,simprocAttr,WY]
    exact⟨_,rfl⟩
   rintro k a V hk ⟨⟨rfl,b,h15⟩,hal,h2,h3,h5,h13,h14,h16⟩
   rcases Yf hk with hkt |rfl
   case inr=>
    simp only[push_cast,hal,h2,h3,h5,h13,h14,h15,h16,↓WX,simprocAttr,WY]
    exact⟨_,rfl⟩
   obtain⟨y,hy⟩:∃y,ol[k]?=some y:=⟨ol[k]'(by omega),by simp⟩
   have hktc:(k:Int)<i:=by omega
   have hkl:k<ol.length:=by omega
   cases b
   ·simp(maxSteps:=1000000)(disch:=omega)only[push_cast,hal,h2,h3,h5,h13,h14,h15,h16,vb,hktc,hkt,hx,hy,Rou.enc,wrap_ok,Int.natCast_add,Int.natCast_one,↓WX,simprocAttr]
    exact⟨_,rfl⟩
   ·simp(maxSteps:=1000000)(disch:=omega)only[push_cast,hal,h2,h3,h5,h13,h14,h15,h16,hktc,hkt,wrap_ok,Int.natCast_add,Int.natCast_one,↓WX,simprocAttr]
    exact⟨_,rfl⟩
  rintro a V ⟨⟨rfl,b,h15⟩,hal,h2,h3,h5,h13,h14⟩
  refine wc_scut (λa V'=>(KeepF V V'/\FSP (QF/\QR) V' a[5]? (700000000+401*i+1) 60)/\a.length=150/\a[2]?=some (.loc 0 0 0)/\a[3]?=some (.loc 1 0 0)/\a[13]?=some (.int .i64 i)/\a[14]?=some (.str at0)) ?_ ?_
  ·obtain⟨d2,T2,fs2,p2,q2,g2,l2,z2,k2⟩:=app_sP g1 (by omega) z1 b 6 at0 (by omega)
   cases b
   ·simp only[push_cast,hal,h2,h3,h5,h13,h14,h15,FSP,↓WX,simprocAttr]
    exact⟨KeepF.refl,_,_,rfl,g1,by omega,z1⟩
   ·replace p2:=(p2 rfl).1
    simp only[push_cast,hal,h2,h3,h5,h13,h14,h15,p2,FSP,↓WX,simprocAttr]
    exact⟨k2,_,_,rfl,g2,by omega,z2⟩
  rintro a V2 ⟨⟨k2,d2,fs2,h5,g2,l2,z2⟩,hal,h2,h3,h13,h14⟩
  have wb:=k2 _ _ nb vb
  obtain⟨m,rfl⟩:∃m,n=m+1:=⟨n-1,by omega⟩
  obtain⟨r,T3,ho,fs3,g3,l3,z3,k3⟩:=inner24_d (n:=m) (tx:=at0) (m:=400) g2 z2 (show FRP True dc 400 30 from ⟨gsc,hgc,hlc,hzc,λ_=>trivial⟩) hat (by omega) (by omega) (by omega)
  have ci:=λst=>cgenT (st:=st) (f:=45) rfl ho
  simp(maxSteps:=1000000)(disch:=omega)only[push_cast,hal,h2,h3,h5,h13,h14,wb,hlt,hx,hxe,cc,ci,wrap_ok,Int.natCast_add,Int.natCast_one,FSP,↓WX,simprocAttr]
  exact⟨(k1.trans k2).trans k3,_,_,rfl,g3,by omega,z3.mono And.left⟩
 clear k1 g1 l1 z1
 rintro a V1 ⟨⟨k1,d1,fs1,h5,g1,l1,z1⟩,hal,h2,h3⟩
 simp only[push_cast,hal,h5,Tryz.f21,↓WX,simprocAttr]
 exact⟨_,g1,l1,z1⟩
theorem Check24_c {p:Plc} {t:Trf} (hap:p.aps.length<=1048576) (hb:TrfB t) (hn:7000001<=n):∃d,FRP ((∀f∈t.fares,0<=f.amt/\f.amt<=1099511627776)/\∀r∈t.rules,(∀p∈r.pcs,0<=p.2/\p.2<=1000)/\r.when.KG) d 1000000000 60/\∀st S,callD E (dcall E n) st S 21 [.agg p.enc,.agg t.enc]=some (d,S):=by
 obtain⟨m,rfl⟩:∃m,n=m+1:=⟨n-1,by omega⟩
 obtain⟨d,T,ho,fs,hg,h1,h2⟩:=Check24_d (n:=m) (p:=p) (t:=t) hap hb (by omega)
 obtain⟨d',f,hf⟩:=GL_fz hg
 exact⟨d',⟨fs,hf,h1,h2⟩,λst S=>callD_pure rfl (by simp only[pureL_cons,pureL_nil,D.pure,Plc_pure,Trf_pure,Bool.and_self]) ho f⟩
end
section
variable {n : Nat}
theorem tmod_pos {a b:Int} (hb:0<b): -b<a.tmod b/\a.tmod b<b:=by
 rcases Int.le_total 0 a with h |h
 ·exact⟨by have:=Int.tmod_nonneg b h;omega,Int.tmod_lt_of_pos a hb⟩
 ·have h1:0<= -a:=by omega
  have h2:=Int.tmod_nonneg b h1
  have h3:=Int.tmod_lt_of_pos (-a) hb
  rw[Int.neg_tmod]at h2 h3
  omega
end
def wdF (x:Int):Nat:=((x.tmod 7+12).tmod 7).toNat
theorem wdF_le (x:Int):wdF x<=6:=by
 obtain⟨h1,h2⟩:=tmod_pos (a:=x) (b:=7) (by omega)
 have h4:=Int.tmod_lt_of_pos (x.tmod 7+12) (b:=7) (by omega)
 unfold wdF
 omega
def chkF (f t d:Int):Int:=if f<0∨t<f∨36525<=t then 12 else if 800<=t-f then 4 else if d<1∨127<d then 2 else 0
def perF (f t d x:Int):Bool:=decide (chkF f t d=0) && (decide (f<=x) && (decide (x<=t) && decide ((d.tdiv (2 ^ wdF x)).tmod 2=1)))
structure Trp where
 typ:ByteArray
 sale:Int
 day:Int
 mnt:Int
 stops:Int
 trs:Int
 cars:List ByteArray
 nums:List Int
 vias:List ByteArray
def Trp.enc (t:Trp) (x y z:D):List D:=[.str t.typ,.int .i64 t.sale,.int .i64 t.day,.int .i64 t.mnt,.int .i64 t.stops,.int .i64 t.trs,x,y,z]
structure Trp.Ok (t:Trp) (x y z:D):Prop where
 hx:FLs 1 Cnd.encT x t.cars
 hy:FLs 1 encZ y t.nums
 hz:FLs 1 Cnd.encT z t.vias
 lx:t.cars.length<=1048576
 ly:t.nums.length<=1048576
 lz:t.vias.length<=1048576
theorem Trp.Ok.pure {t:Trp} {x y z:D} (h:t.Ok x y z):pureL (t.enc x y z)=true:=by
 simp only[Trp.enc,pureL_cons,pureL_nil,D.pure,fls_pure h.hx (Cnd.encT_pure _),fls_pure h.hy (encZs_pure' _),fls_pure h.hz (Cnd.encT_pure _),Yj]
mutual
def hol (t:Trp):Cnd->Bool
 | .mk k l _ a b pf pt pd c _=>
  if k=1 then true
  else if k=2 then decide ((cnt t l:Int)=l.length)
  else if k=3 then decide ((cnt t l:Int)>0)
  else if k=4 then decide ((cnt t l:Int)=0)
  else if k=5 then perF pf pt pd t.day
  else if k=6 then perF pf pt pd t.sale
  else if k=7 then decide (IntKind.i64.wrap (t.day-t.sale)>=a)
  else if k=8 then if a<=b then decide (t.mnt>=a) && decide (t.mnt<=b) else decide (t.mnt>=a) || decide (t.mnt<=b)
  else if k=9 then decide (t.stops<=a)
  else if k=10 then decide (t.trs<=a)
  else if k=11 then t.cars.all λs=>c.any λx=>decide (x=s)
  else if k=12 then t.nums.all λx=> !(decide (x<a) || decide (x>b))
  else if k=13 then t.vias.all λs=>c.any λx=>decide (x=s)
  else c.any λx=>decide (x=t.typ)
def cnt (t:Trp):List Cnd->Nat
 | []=>0
 |c::cs=>(if hol t c=true then 1 else 0)+cnt t cs
end
section
variable {n : Nat}
end
end Go.Proofs.YtaklebjoenophaaGreat.Dm
