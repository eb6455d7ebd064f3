/-
  The reference's check of a tariff: some list.
-/
import Derived.Test.YtaklebjoenophaaGreatTfA
set_option maxHeartbeats 64000000
set_option maxRecDepth 100000
set_option linter.unusedSimpArgs false
set_option linter.unusedVariables false
namespace Go.Proofs.YtaklebjoenophaaGreat.Dm
open Go Gw
theorem cgenT {call:Call} {st:Bool} {S:List Ob} {f:FuncId} {args:List D} {r:Option (D×List Ob)} (hm:E.mode f=.gen) (h:call f args S=r):Yi E call st S f args=r:=by
 unfold Yi
 rw[hm]
 exact h
theorem not_fault2s {z:Nat} {es:List (List D)} {x:Bool} {d:D}:¬FaultOb (.row 2 [[.sl z es x,d]]):=by
 rintro⟨fs,h⟩
 injection h with _ h
 cases fs with
 |nil=>cases h
 |cons f fs=>
  rw[Uy]at h
  injection h with h _
  simp[encF]at h
structure TrfB (t:Trf):Prop where
 fl:t.fares.length<=100
 rl:t.rules.length<=100
 ol:t.rous.length<=100
 tl:t.taxes.length<=100
 fb:∀f∈t.fares,f.car.size<=1048576/\f.bas.size<=1048576/\f.cls.size<=1048576
 rb:∀r∈t.rules,RulB r
 ob:∀r∈t.rous,r.links.length<=1048576/\∀x∈r.links,x.1.size<=1048576/\x.2.size<=1048576
 tb:∀x∈t.taxes,TxB x
def fareT:ByteArray:=ByteArray.mk #[102,97,114,101,32]
def ruleT:ByteArray:=ByteArray.mk #[114,117,108,101,32]
def routT:ByteArray:=ByteArray.mk #[114,111,117,116,105,110,103,32]
theorem Rul_lit (x:Rul):∃c0 c1 c2 c3 c4 c5 c6 c7 c8 c9 c10 c11 c12 c13,x.enc=[.int .i64 x.num,c0,c1,c2,c3,c4,c5,c6,c7,c8,c9,c10,c11,c12,c13]:=by
 obtain⟨nu,w,cb,cx,mi,ma,ch,re,pc,px⟩:=x
 cases w
 exact⟨_,_,_,_,_,_,_,_,_,_,_,_,_,_,rfl⟩
theorem stepsB (a b m:Nat):∃F:Nat->Nat,F 0=a/\(∀i,F (i+1)=F i+b)/\∀i,i<=m->F i<=a+m*b:=
 ⟨λi=>a+i*b,by simp,λi=>by show a+(i+1)*b=a+i*b+b;rw[Nat.succ_mul,Nat.add_assoc],λi hi=>Nat.add_le_add_left (Va b hi) a⟩
section
variable {n : Nat}
theorem inner24_d {S:List Ob} {d x:D} {fs:List (Int×ByteArray)} {tx:ByteArray} {m:Nat} {P Q:Prop} (h:GL 2 encF S d fs) (hz:SZ P fs 60) (hx:FRP Q x m 30) (ha:tx.size<=20) (hl:fs.length<=1000000000000) (hm:m<=6000000) (hn:6000010<=n):
  WO (Yb E (n+1) 45 [d,.str tx,x] S) λr T=>∃fs',GL 2 encF T r fs'/\fs'.length<=fs.length+m/\SZ (P/\Q) fs' 60/\KeepF S T:=by
 obtain⟨gs,hg,hgl,hgz⟩:=hx
 refine Ye Tryz.func45 rfl (by decide) rfl 32 rfl (λa hal ha=>?_)
 obtain⟨h0,h1,h2⟩:=aQ3 ha
 clear ha
 have hs1:(ByteArray.mk #[32]).size=1:=rfl
 have m1:=mx_of (a:=tx) (b:=ByteArray.mk #[32]) (by omega)
 rcases hg with ⟨rfl,rfl⟩ | ⟨y,rfl⟩
 ·simp only[push_cast,↓WX,simprocAttr]
  refine Yk (λi a T=>(i=0/\T=S)/\a.length=32/\a[0]?=some (d)/\a[1]?=some (.str tx)/\a[2]?=some (.nils)/\a[7]?=some (.int .i64 i)) 0 ?_ (by omega) ?_
  ·simp only[push_cast,hal,h0,h1,h2,simprocAttr,WY]
  rintro i a T hi ⟨⟨rfl,rfl⟩,hal,h0,h1,h2,h7⟩
  simp only[push_cast,hal,h0,h2,h7,Tryz.f45,↓WX,simprocAttr,WY]
  exact⟨_,h,by omega,hz.mono λe=>⟨e,hgz.2 rfl⟩,KeepF.refl⟩
 ·obtain⟨K,hK⟩:∃K:Nat->Prop,∀i,K i↔i=0:=⟨λi=>i=0,λ_=>Iff.rfl⟩
  simp only[push_cast,↓WX,simprocAttr]
  refine Yk (λi a T=>(KeepF S T/\FSP (P/\K i) T a[0]? (fs.length+i) 60)/\a.length=32/\a[1]?=some (.str tx)/\a[2]?=some (.sl 2 (gs.map encF) y)/\a[7]?=some (.int .i64 i)) gs.length ?_ (by omega) ?_
  ·simp only[push_cast,hal,h0,h1,h2,FSP,simprocAttr,WY]
   exact⟨KeepF.refl,_,_,rfl,h,Uk _,hz.mono λe=>⟨e,(hK 0).2 rfl⟩⟩
  rintro i a T hi ⟨⟨k1,d1,fs1,h0,g1,l1,z1⟩,hal,h1,h2,h7⟩
  rcases Kw hi with hlt |rfl
  case inr=>
   simp only[push_cast,hal,h0,h2,h7,Tryz.f45,↓WX,simprocAttr,WY]
   exact⟨_,g1,by omega,z1.mono λe=>⟨e.1,hgz.2 (Ug ((hK _).1 e.2))⟩,k1⟩
  obtain⟨f,hf⟩:∃f,gs[i]?=some f:=⟨gs[i],by simp⟩
  have hfz:=hgz.1 f (Kx hf)
  have hltc:(i:Int)<gs.length:=by omega
  have m2:=mx_of (a:=tx++ByteArray.mk #[32]) (b:=f.2) (by rw[ba_len];omega)
  obtain⟨d2,T2,fs2,p2,q2,g2,l2,z2,k2⟩:=app_sP g1 (by omega) z1 true f.1 (tx++ByteArray.mk #[32]++f.2) (by rw[ba_len,ba_len];omega)
  have w2:=(p2 rfl).2
  replace p2:=(p2 rfl).1
  simp(disch:=omega)only[push_cast,Vn,hal,h0,h1,h2,h7,hltc,hlt,hf,m1,m2,p2,encF,Yf,FSP,↓WX,simprocAttr,WY]
  exact⟨k1.trans k2,_,_,rfl,g2,by omega,w2.any⟩
theorem Check24_d {p:Plc} {t:Trf} (hap:p.aps.length<=1048576) (hb:TrfB t) (hn:7000000<=n):
  WO (Yb E (n+1) 21 [.agg p.enc,.agg t.enc] []) λd T=>∃fs,GL 2 encF T d fs/\fs.length<=1000000000/\SZ ((∀f∈t.fares,0<=f.amt/\f.amt<=1099511627776)/\∀r∈t.rules,(∀p∈r.pcs,0<=p.2/\p.2<=1000)/\r.when.KG) fs 60:=by
 obtain⟨hb1,hb2,hb3,hb4,hb5,hb6,hb7,hb8⟩:=hb
 have cf:=λf hf=>fare24_c (n:=n) (p:=p) (t:=t) (f:=f) hap (by omega) (by omega) (hb5 f hf).1 (hb5 f hf).2.1 (hb5 f hf).2.2 (by omega)
 obtain⟨fl,fx,rl,rx,ol,ox,tl,tx⟩:=t
 dsimp only at hb1 hb2 hb3 hb5 hb6 hb7 cf ⊢
 obtain⟨PF,hF0,hFs,hFl⟩:=takeP fl λf=>0<=f.amt/\f.amt<=1099511627776
 obtain⟨PR,hR0,hRs,hRl⟩:=takeP rl λr=>(∀p∈r.pcs,0<=p.2/\p.2<=1000)/\r.when.KG
 obtain⟨K,hK⟩:∃K:Nat->Prop,∀i,K i↔i=0:=⟨λi=>i=0,λ_=>Iff.rfl⟩
 generalize hQF:(∀f∈fl,0<=f.amt/\f.amt<=1099511627776)=QF at*
 generalize hQR:(∀r∈rl,(∀p∈r.pcs,0<=p.2/\p.2<=1000)/\r.when.KG)=QR at*
 simp only[Plc.enc,Trf.enc]at cf ⊢
 generalize p.aps.map Apt.enc=ae at*
 generalize p.dts.map Dst.enc=de at*
 generalize tl.map Tx.enc=te at*
 refine Ye Tryz.func21 rfl (by decide) rfl 150 rfl (λa hal ha=>?_)
 obtain⟨h0,h1⟩:=aQ2 ha
 clear ha
 obtain⟨S0,hS0⟩:∃S0,S0=[Ob.row 2 [[.sl 5 ae p.apsx,.sl 3 de p.dtsx]],Ob.row 4 [[.sl 9 (fl.map Far.enc) fx,.sl 15 (rl.map Rul.enc) rx,.sl 3 (ol.map Rou.enc) ox,.sl 7 te tx]]]:=⟨_,rfl⟩
 have ga:S0[0]?=some (.row 2 [[.sl 5 ae p.apsx,.sl 3 de p.dtsx]]):=by rw[hS0];rfl
 have gb:S0[1]?=some (.row 4 [[.sl 9 (fl.map Far.enc) fx,.sl 15 (rl.map Rul.enc) rx,.sl 3 (ol.map Rou.enc) ox,.sl 7 te tx]]):=by rw[hS0];rfl
 have na:¬FaultOb (.row 2 [[.sl 5 ae p.apsx,.sl 3 de p.dtsx]]):=not_fault2s
 have nb:¬FaultOb (.row 4 [[.sl 9 (fl.map Far.enc) fx,.sl 15 (rl.map Rul.enc) rx,.sl 3 (ol.map Rou.enc) ox,.sl 7 te tx]]):=not_fault4
 have hsf:fareT.size=5:=rfl
 have hsr:ruleT.size=5:=rfl
 have hso:routT.size=8:=rfl
 refine Ya (λa V=>V=S0/\gQ a 150 (a[3]?=some (.loc 1 0 0)) [(2,.loc 0 0 0)]) ?_ ?_
 ·simp only[push_cast,hal,h0,h1,↓WX,simprocAttr]
  exact hS0.symm
 rintro a V ⟨rfl,hal,h2,h3⟩
 refine Ya (λa W=>W=V/\gQ a 150 (a[5]?=some (.nils)) [(2,.loc 0 0 0),(3,.loc 1 0 0)]) ?_ ?_
 ·simp only[push_cast,hal,h2,h3,↓WX,simprocAttr]
 rintro a W ⟨rfl,hal,h2,h3,h5⟩
 refine Ya (λa V=>V=W/\gQ a 150 (a[5]?=some (.nils)) [(2,.loc 0 0 0),(3,.loc 1 0 0)]) ?_ ?_
 ·have q:¬(512:Int)<fl.length:=by omega
  simp only[push_cast,Vn,hal,h2,h3,h5,gb,q,↓WX,simprocAttr]
 rintro a V ⟨rfl,hal,h2,h3,h5⟩
 refine Ya (λa V'=>(KeepF V V'/\FSP QF V' a[5]? 600 60)/\gQ a 150 (a[3]?=some (.loc 1 0 0)) [(2,.loc 0 0 0)]) ?_ ?_
 ·simp only[push_cast,↓WX,simprocAttr]
  refine Yk (λi a V'=>(KeepF V V'/\FSP (PF i) V' a[5]? (6*i) 60)/\a.length=150/\a[2]?=some (.loc 0 0 0)/\a[3]?=some (.loc 1 0 0)/\a[6]?=some (.int .i64 i)) fl.length ?_ (by omega) ?_
  ·simp only[push_cast,hal,h2,h3,h5,FSP,simprocAttr,WY]
   exact⟨KeepF.refl,_,[],rfl,GL.nil,Vt _,SZ.nil hF0⟩
  rintro i a T hi ⟨⟨k1,d,fs,h5,g1,l1,z1⟩,hal,h2,h3,h6⟩
  have va:=k1 _ _ na ga
  have vb:=k1 _ _ nb gb
  rcases Kw hi with hlt |rfl
  case inr=>
   simp only[push_cast,hal,h2,h3,h5,h6,vb,FSP,↓WX,simprocAttr,WY]
   exact⟨k1,_,_,rfl,g1,by omega,z1.mono hFl⟩
  obtain⟨f,hf⟩:∃f,fl[i]?=some f:=⟨fl[i],by simp⟩
  have hltc:(i:Int)<fl.length:=by omega
  obtain⟨q,hq,cq⟩:=Wb.rdecW (n:=n) (i:=i) (by omega) (by omega)
  have mq:=mx_of (a:=fareT) (b:=q) (by omega)
  have hat:(fareT++q).size<=60:=by rw[ba_len];omega
  obtain⟨de',⟨es,hde,hel,hep⟩,cfa⟩:=cf f (Kx hf)
  have hfe:Far.enc f=[.str f.car,.str f.frm,.str f.dst,.str f.bas,.str f.cls,.bool f.rnd,.int .i64 f.amt,.int .i64 f.rul,.int .i64 f.rou]:=rfl
  rw[hfe]at cfa
  refine Ya (λa V=>V=T/\gQ a 150 (a[6]?=some (.int .i64 i)) [(2,.loc 0 0 0),(3,.loc 1 0 0),(5,d)]) ?_ ?_
  ·simp only[push_cast,hal,h2,h3,h5,h6,vb,hltc,↓WX,simprocAttr]
  rintro a V' ⟨rfl,hal,h2,h3,h5,h6⟩
  rw[Zx,Yx]
  refine Ya (λa W=>W=V'/\gQ a 150 (a[7]?=some (de')) [(2,.loc 0 0 0),(3,.loc 1 0 0),(5,d),(6,.int .i64 i)]) ?_ ?_
  ·simp only[push_cast,hal,h2,h3,h5,h6,va,vb,hf,hfe,cfa,↓WX,simprocAttr]
  rintro a W ⟨rfl,hal,h2,h3,h5,h6,h7⟩
  rcases hde with ⟨rfl,rfl⟩ | ⟨y,rfl⟩
  ·simp only[push_cast,↓WX,simprocAttr]
   refine Yk (λk a T=>(k=0/\T=W)/\a.length=150/\a[2]?=some (.loc 0 0 0)/\a[3]?=some (.loc 1 0 0)/\a[5]?=some (d)/\a[6]?=some (.int .i64 i)/\a[7]?=some (.nils)/\a[8]?=some (.int .i64 k)) 0 ?_ (by omega) ?_
   ·simp only[push_cast,hal,h2,h3,h5,h6,h7,simprocAttr,WY]
   rintro k a T hk ⟨⟨rfl,rfl⟩,hal,h2,h3,h5,h6,h7,h8⟩
   simp(disch:=omega)only[push_cast,hal,h2,h3,h5,h6,h7,h8,Yf,FSP,↓WX,simprocAttr,WY]
   exact⟨hlt,k1,_,_,rfl,g1,by omega,z1.mono λe=>hFs i f hf e (hep rfl)⟩
  ·simp only[push_cast,↓WX,simprocAttr]
   refine Yk (λk a T=>(KeepF W T/\FSP (PF i/\K k) T a[5]? (6*i+k) 60)/\a.length=150/\a[2]?=some (.loc 0 0 0)/\a[3]?=some (.loc 1 0 0)/\a[6]?=some (.int .i64 i)/\a[7]?=some (.sl 1 (es.map encI) y)/\a[8]?=some (.int .i64 k)) es.length ?_ (by omega) ?_
   ·simp only[push_cast,hal,h2,h3,h5,h6,h7,FSP,simprocAttr,WY]
    exact⟨KeepF.refl,_,_,rfl,g1,by omega,z1.mono λe=>⟨e,(hK 0).2 rfl⟩⟩
   rintro k a T hk ⟨⟨k2,d2,fs2,h5,g2,l2,z2⟩,hal,h2,h3,h6,h7,h8⟩
   rcases Kw hk with hkt |rfl
   case inr=>
    simp(disch:=omega)only[push_cast,hal,h2,h3,h5,h6,h7,h8,Yf,FSP,↓WX,simprocAttr,WY]
    exact⟨hlt,k1.trans k2,_,_,rfl,g2,by omega,z2.mono λe=>hFs i f hf e.1 (hep (Ug ((hK _).1 e.2)))⟩
   obtain⟨x,hx⟩:∃x,es[k]?=some x:=⟨es[k],by simp⟩
   have hktc:(k:Int)<es.length:=by omega
   obtain⟨d3,T3,fs3,p3,q3,g3,l3,z3,k3⟩:=app_sP g2 (by omega) z2 true x (fareT++q) hat
   have w3:=(p3 rfl).2
   replace p3:=(p3 rfl).1
   unfold fareT at mq p3
   simp(disch:=omega)only[push_cast,Vn,hal,h2,h3,h5,h6,h7,h8,hktc,hkt,hx,cq,mq,p3,encI,Yf,FSP,↓WX,simprocAttr,WY]
   exact⟨k2.trans k3,_,_,rfl,g3,by omega,w3.any⟩
 rintro a V1 ⟨⟨k1,d1,fs1,h5,g1,l1,z1⟩,hal,h2,h3⟩
 obtain⟨F,hF1,hF2,hF3⟩:=stepsB 600 6000001 100
 refine Ya (λa V'=>(KeepF V V'/\FSP (QF/\QR) V' a[5]? 700000000 60)/\gQ a 150 (a[3]?=some (.loc 1 0 0)) [(2,.loc 0 0 0)]) ?_ ?_
 ·simp only[push_cast,↓WX,simprocAttr]
  refine Yk (λi a V'=>(KeepF V V'/\FSP (QF/\PR i) V' a[5]? (F i) 60)/\a.length=150/\a[2]?=some (.loc 0 0 0)/\a[3]?=some (.loc 1 0 0)/\a[9]?=some (.int .i64 i)) rl.length ?_ (by omega) ?_
  ·simp only[push_cast,hal,h2,h3,h5,FSP,simprocAttr,WY]
   exact⟨k1,_,_,rfl,g1,by omega,z1.mono λe=>⟨e,hR0⟩⟩
  clear k1 g1 l1 z1
  rintro i a T hi ⟨⟨k1,d,fs,h5,g1,l1,z1⟩,hal,h2,h3,h9⟩
  have vb:=k1 _ _ nb gb
  have hFb:=hF3 i (by omega)
  rcases Kw hi with hlt |rfl
  case inr=>
   simp only[push_cast,hal,h2,h3,h5,h9,vb,FSP,↓WX,simprocAttr,WY]
   exact⟨k1,_,_,rfl,g1,by omega,z1.mono λe=>⟨e.1,hRl e.2⟩⟩
  obtain⟨x,hx⟩:∃x,rl[i]?=some x:=⟨rl[i],by simp⟩
  have hltc:(i:Int)<rl.length:=by omega
  obtain⟨q,hq,cq⟩:=Wb.rdecW (n:=n) (i:=i) (by omega) (by omega)
  have mq:=mx_of (a:=ruleT) (b:=q) (by omega)
  have hat:(ruleT++q).size<=20:=by rw[ba_len];omega
  obtain⟨dc,hdc,cc⟩:=Check21_c (n:=n) (hb6 x (Kx hx)) (by omega)
  obtain⟨x0,x1,x2,x3,x4,x5,x6,x7,x8,x9,x10,x11,x12,x13,hxe⟩:=Rul_lit x
  rw[hxe]at cc
  refine Ya (λa V=>V=T/\gQ a 150 (a[9]?=some (.int .i64 i)) [(2,.loc 0 0 0),(3,.loc 1 0 0),(5,d)]) ?_ ?_
  ·simp only[push_cast,hal,h2,h3,h5,h9,vb,hltc,↓WX,simprocAttr]
  rintro a V' ⟨rfl,hal,h2,h3,h5,h9⟩
  rw[Zx,Yx]
  refine Ya (λa W=>W=V'/\gQ a 150 (a[11]?=some (.bool false)) [(2,.loc 0 0 0),(3,.loc 1 0 0),(5,d),(9,.int .i64 i),(10,.str (ruleT++q))]) ?_ ?_
  ·unfold ruleT at mq ⊢
   simp only[push_cast,Vn,hal,h2,h3,h5,h9,cq,mq,↓WX,simprocAttr]
  clear mq
  generalize ruleT++q=at0 at*
  rintro a W ⟨rfl,hal,h2,h3,h5,h9,h10,h11⟩
  refine Ya (λa V=>(V=W/\∃b,a[11]?=some (.bool b))/\gQ a 150 (a[10]?=some (.str at0)) [(2,.loc 0 0 0),(3,.loc 1 0 0),(5,d),(9,.int .i64 i)]) ?_ ?_
  ·simp only[push_cast,↓WX,simprocAttr]
   refine Yk (λk a V=>(V=W/\∃b,a[11]?=some (.bool b))/\a.length=150/\a[2]?=some (.loc 0 0 0)/\a[3]?=some (.loc 1 0 0)/\a[5]?=some (d)/\a[9]?=some (.int .i64 i)/\a[10]?=some (.str at0)/\a[12]?=some (.int .i64 k)) i ?_ (by omega) ?_
   ·simp only[push_cast,hal,h2,h3,h5,h9,h10,h11,simprocAttr,WY]
    exact⟨_,rfl⟩
   rintro k a V hk ⟨⟨rfl,b,h11⟩,hal,h2,h3,h5,h9,h10,h12⟩
   rcases Kw hk with hkt |rfl
   case inr=>
    simp only[push_cast,hal,h2,h3,h5,h9,h10,h11,h12,↓WX,simprocAttr,WY]
    exact⟨_,rfl⟩
   obtain⟨y,hy⟩:∃y,rl[k]?=some y:=⟨rl[k]'(by omega),by simp⟩
   have hktc:(k:Int)<i:=by omega
   have hkl:k<rl.length:=by omega
   obtain⟨y0,y1,y2,y3,y4,y5,y6,y7,y8,y9,y10,y11,y12,y13,hye⟩:=Rul_lit y
   cases b
   ·simp(disch:=omega)only[push_cast,hal,h2,h3,h5,h9,h10,h11,h12,vb,hktc,hkt,hx,hy,hxe,hye,Yf,↓WX,simprocAttr,WY]
    exact⟨_,rfl⟩
   ·simp(disch:=omega)only[push_cast,hal,h2,h3,h5,h9,h10,h11,h12,hktc,hkt,Yf,↓WX,simprocAttr,WY]
    exact⟨_,rfl⟩
  rintro a V ⟨⟨rfl,b,h11⟩,hal,h2,h3,h5,h9,h10⟩
  refine Ya (λa V'=>(KeepF V V'/\FSP (QF/\PR i) V' a[5]? (F i+1) 60)/\gQ a 150 (a[10]?=some (.str at0)) [(2,.loc 0 0 0),(3,.loc 1 0 0),(9,.int .i64 i)]) ?_ ?_
  ·obtain⟨d2,T2,fs2,p2,q2,g2,l2,z2,k2⟩:=app_sP g1 (by omega) z1 b 6 at0 (by omega)
   cases b
   ·simp only[push_cast,hal,h2,h3,h5,h9,h10,h11,FSP,↓WX,simprocAttr]
    exact⟨KeepF.refl,_,_,rfl,g1,by omega,z1⟩
   ·replace p2:=(p2 rfl).1
    simp only[push_cast,hal,h2,h3,h5,h9,h10,h11,p2,FSP,↓WX,simprocAttr]
    exact⟨k2,_,_,rfl,g2,by omega,z2⟩
  rintro a V2 ⟨⟨k2,d2,fs2,h5,g2,l2,z2⟩,hal,h2,h3,h9,h10⟩
  have wb:=k2 _ _ nb vb
  obtain⟨m,rfl⟩:∃m,n=m+1:=⟨n-1,by omega⟩
  obtain⟨r,T3,ho,fs3,g3,l3,z3,k3⟩:=inner24_d (n:=m) (tx:=at0) g2 z2 hdc hat (by omega) (by omega) (by omega)
  have ci:=λst=>cgenT (st:=st) (f:=45) rfl ho
  simp(disch:=omega)only[push_cast,hal,h2,h3,h5,h9,h10,wb,hlt,hx,hxe,cc,ci,Yf,FSP,↓WX,simprocAttr,WY]
  have hFi:=hF2 i
  exact⟨(k1.trans k2).trans k3,_,_,rfl,g3,by omega,z3.mono λe=>⟨e.1.1,hRs i x hx e.1.2 e.2⟩⟩
 clear k1 g1 l1 z1
 rintro a V1 ⟨⟨k1,d1,fs1,h5,g1,l1,z1⟩,hal,h2,h3⟩
 refine Ya (λa V'=>(KeepF V V'/\FSP (QF/\QR) V' a[5]? 1000000000 60)/\gQ a 150 (a[3]?=some (.loc 1 0 0)) [(2,.loc 0 0 0)]) ?_ ?_
 ·simp only[push_cast,↓WX,simprocAttr]
  refine Yk (λi a V'=>(KeepF V V'/\FSP (QF/\QR) V' a[5]? (700000000+401*i) 60)/\a.length=150/\a[2]?=some (.loc 0 0 0)/\a[3]?=some (.loc 1 0 0)/\a[13]?=some (.int .i64 i)) ol.length ?_ (by omega) ?_
  ·simp only[push_cast,hal,h2,h3,h5,FSP,simprocAttr,WY]
   exact⟨k1,_,_,rfl,g1,l1,z1⟩
  clear k1 g1 l1 z1
  rintro i a T hi ⟨⟨k1,d,fs,h5,g1,l1,z1⟩,hal,h2,h3,h13⟩
  have vb:=k1 _ _ nb gb
  rcases Kw hi with hlt |rfl
  case inr=>
   simp only[push_cast,hal,h2,h3,h5,h13,vb,FSP,↓WX,simprocAttr,WY]
   exact⟨k1,_,_,rfl,g1,by omega,z1⟩
  obtain⟨x,hx⟩:∃x,ol[i]?=some x:=⟨ol[i],by simp⟩
  have hltc:(i:Int)<ol.length:=by omega
  obtain⟨q,hq,cq⟩:=Wb.rdecW (n:=n) (i:=i) (by omega) (by omega)
  have mq:=mx_of (a:=routT) (b:=q) (by omega)
  have hat:(routT++q).size<=20:=by rw[ba_len];omega
  have hxb:=hb7 x (Kx hx)
  obtain⟨dc,⟨gsc,hgc,hlc,hzc⟩,cc⟩:=Check22_c (n:=n) (nu:=x.num) (mi:=x.miles) (l:=x.links) (lx:=x.linksx) hxb.1 hxb.2 (by omega)
  have hxe:Rou.enc x=[.int .i64 x.num,.sl 2 (x.links.map encLk) x.linksx,.int .i64 x.miles]:=rfl
  refine Ya (λa V=>V=T/\gQ a 150 (a[13]?=some (.int .i64 i)) [(2,.loc 0 0 0),(3,.loc 1 0 0),(5,d)]) ?_ ?_
  ·simp only[push_cast,hal,h2,h3,h5,h13,vb,hltc,↓WX,simprocAttr]
  rintro a V' ⟨rfl,hal,h2,h3,h5,h13⟩
  rw[Zx,Yx]
  refine Ya (λa W=>W=V'/\gQ a 150 (a[15]?=some (.bool false)) [(2,.loc 0 0 0),(3,.loc 1 0 0),(5,d),(13,.int .i64 i),(14,.str (routT++q))]) ?_ ?_
  ·unfold routT at mq ⊢
   simp only[push_cast,Vn,hal,h2,h3,h5,h13,cq,mq,↓WX,simprocAttr]
  clear mq
  generalize routT++q=at0 at*
  rintro a W ⟨rfl,hal,h2,h3,h5,h13,h14,h15⟩
  refine Ya (λa V=>(V=W/\∃b,a[15]?=some (.bool b))/\gQ a 150 (a[14]?=some (.str at0)) [(2,.loc 0 0 0),(3,.loc 1 0 0),(5,d),(13,.int .i64 i)]) ?_ ?_
  ·simp only[push_cast,↓WX,simprocAttr]
   refine Yk (λk a V=>(V=W/\∃b,a[15]?=some (.bool b))/\a.length=150/\a[2]?=some (.loc 0 0 0)/\a[3]?=some (.loc 1 0 0)/\a[5]?=some (d)/\a[13]?=some (.int .i64 i)/\a[14]?=some (.str at0)/\a[16]?=some (.int .i64 k)) i ?_ (by omega) ?_
   ·simp only[push_cast,hal,h2,h3,h5,h13,h14,h15,simprocAttr,WY]
    exact⟨_,rfl⟩
   rintro k a V hk ⟨⟨rfl,b,h15⟩,hal,h2,h3,h5,h13,h14,h16⟩
   rcases Kw hk with hkt |rfl
   case inr=>
    simp only[push_cast,hal,h2,h3,h5,h13,h14,h15,h16,↓WX,simprocAttr,WY]
    exact⟨_,rfl⟩
   obtain⟨y,hy⟩:∃y,ol[k]?=some y:=⟨ol[k]'(by omega),by simp⟩
   have hktc:(k:Int)<i:=by omega
   have hkl:k<ol.length:=by omega
   cases b
   ·simp(disch:=omega)only[push_cast,hal,h2,h3,h5,h13,h14,h15,h16,vb,hktc,hkt,hx,hy,Rou.enc,Yf,↓WX,simprocAttr,WY]
    exact⟨_,rfl⟩
   ·simp(disch:=omega)only[push_cast,hal,h2,h3,h5,h13,h14,h15,h16,hktc,hkt,Yf,↓WX,simprocAttr,WY]
    exact⟨_,rfl⟩
  rintro a V ⟨⟨rfl,b,h15⟩,hal,h2,h3,h5,h13,h14⟩
  refine Ya (λa V'=>(KeepF V V'/\FSP (QF/\QR) V' a[5]? (700000000+401*i+1) 60)/\gQ a 150 (a[14]?=some (.str at0)) [(2,.loc 0 0 0),(3,.loc 1 0 0),(13,.int .i64 i)]) ?_ ?_
  ·obtain⟨d2,T2,fs2,p2,q2,g2,l2,z2,k2⟩:=app_sP g1 (by omega) z1 b 6 at0 (by omega)
   cases b
   ·simp only[push_cast,hal,h2,h3,h5,h13,h14,h15,FSP,↓WX,simprocAttr]
    exact⟨KeepF.refl,_,_,rfl,g1,by omega,z1⟩
   ·replace p2:=(p2 rfl).1
    simp only[push_cast,hal,h2,h3,h5,h13,h14,h15,p2,FSP,↓WX,simprocAttr]
    exact⟨k2,_,_,rfl,g2,by omega,z2⟩
  rintro a V2 ⟨⟨k2,d2,fs2,h5,g2,l2,z2⟩,hal,h2,h3,h13,h14⟩
  have wb:=k2 _ _ nb vb
  obtain⟨m,rfl⟩:∃m,n=m+1:=⟨n-1,by omega⟩
  obtain⟨r,T3,ho,fs3,g3,l3,z3,k3⟩:=inner24_d (n:=m) (tx:=at0) (m:=400) g2 z2 (show FRP True dc 400 30 from ⟨gsc,hgc,hlc,hzc,λ_=>trivial⟩) hat (by omega) (by omega) (by omega)
  have ci:=λst=>cgenT (st:=st) (f:=45) rfl ho
  simp(disch:=omega)only[push_cast,hal,h2,h3,h5,h13,h14,wb,hlt,hx,hxe,cc,ci,Yf,FSP,↓WX,simprocAttr,WY]
  exact⟨(k1.trans k2).trans k3,_,_,rfl,g3,by omega,z3.mono And.left⟩
 clear k1 g1 l1 z1
 rintro a V1 ⟨⟨k1,d1,fs1,h5,g1,l1,z1⟩,hal,h2,h3⟩
 simp only[push_cast,hal,h5,Tryz.f21,↓WX,simprocAttr]
 exact⟨_,g1,l1,z1⟩
theorem Check24_c {p:Plc} {t:Trf} (hap:p.aps.length<=1048576) (hb:TrfB t) (hn:7000001<=n):∃d,FRP ((∀f∈t.fares,0<=f.amt/\f.amt<=1099511627776)/\∀r∈t.rules,(∀p∈r.pcs,0<=p.2/\p.2<=1000)/\r.when.KG) d 1000000000 60/\∀st S,Yi E (Yb E n) st S 21 [.agg p.enc,.agg t.enc]=some (d,S):=by
 obtain⟨m,rfl⟩:∃m,n=m+1:=⟨n-1,by omega⟩
 obtain⟨d,T,ho,fs,hg,h1,h2⟩:=Check24_d (n:=m) (p:=p) (t:=t) hap hb (by omega)
 obtain⟨d',f,hf⟩:=GL_fz hg
 exact⟨d',⟨fs,hf,h1,h2⟩,λst S=>Yd rfl (by simp only[Yc,Yg,D.pure,Yt,Ja,Bool.and_self]) ho f⟩
end
end Go.Proofs.YtaklebjoenophaaGreat.Dm
