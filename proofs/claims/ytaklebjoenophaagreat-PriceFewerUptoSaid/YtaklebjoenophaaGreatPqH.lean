/-
  Journeys that fit; of two valid prices of a journey just one is better: as a run of the machine.
  Percentages, surcharges and what passengers pay: the program, exactly.
  The search for the cheapest price: its plain law. What the search leaves out cannot be the best.
-/
import Derived.Test.YtaklebjoenophaaGreatPqF
import Derived.Test.YtaklebjoenophaaGreatPrJ
import Derived.Test.YtaklebjoenophaaGreatZg
set_option maxHeartbeats 64000000
set_option maxRecDepth 100000
set_option linter.unusedSimpArgs false
set_option linter.unusedVariables false
namespace Go.Proofs.YtaklebjoenophaaGreat.Dm
open Go Gw
structure Jny where
 p:Plc
 t:Trf
 l:List Wnt
 lx:Bool
 pass:ByteArray
 sale:Int
def Jny.enc (j:Jny):List D:=[.sl 5 (j.p.aps.map Apt.enc) j.p.apsx,.sl 3 (j.p.dts.map Dst.enc) j.p.dtsx,.sl 9 (j.t.fares.map Far.enc) j.t.fx,.sl 15 (j.t.rules.map Rul.enc) j.t.rx,.sl 3 (j.t.rous.map Rou.enc) j.t.ox,.sl 7 (j.t.taxes.map Tx.enc) j.t.tx,.sl 8 (j.l.map Wnt.enc) j.lx,.str j.pass,.int .i64 j.sale]
theorem Jny_pure (j:Jny):pureL j.enc=true:=by
 simp only[D.pure,pureL_cons,pureL_nil,Bool.and_self,Jny.enc,Apts_pure,Dsts_pure,Fars_pure,Ruls_pure,Rous_pure,Txs_pure,Wnts_pure]
structure JnyB (j:Jny):Prop where
 apr:∀c∈j.p.aps,c.code.size<=1048576/\c.city.size<=1048576/\c.ctry.size<=1048576
 apl:j.p.aps.length<=1048576
 sh:∀a∈j.p.aps,a.sh.length<=1048576
 far:∀f∈j.t.fares,f.car.size<=1048576/\f.bas.size<=1048576/\f.cls.size<=1048576
 rul:∀r∈j.t.rules,RulB r
 rou:∀r∈j.t.rous,r.links.length<=1048576/\∀x∈r.links,x.1.size<=1048576/\x.2.size<=1048576
 tax:∀x∈j.t.taxes,TxB x
 len:j.l.length<=1048576
 dst:∀x∈j.p.dts,x.fr.size<=1048576/\x.to.size<=1048576
structure JnyF (j:Jny):Prop where
 l:j.l.length<=4
 fl:j.t.fares.length<=14
 rl:j.t.rules.length<=8
 ol:j.t.rous.length<=8
 tl:j.t.taxes.length<=8
 al:j.p.aps.length<=12
 dl:j.p.dts.length<=20
structure JnyS (j:Jny):Prop where
 fit:JnyF j
 so:∀a∈j.p.aps,ShOk a.sh
 am:∀f∈j.t.fares,0<=f.amt/\f.amt<=1099511627776
 pc:∀r∈j.t.rules,(∀p∈r.pcs,0<=p.2/\p.2<=1000)/\r.when.KG
 tg:∀x∈j.t.taxes,TxG x
 tm:∀w∈j.l,w.tm
theorem len_fzP {S:List Ob} {d:D} {fs:List (Int×ByteArray)} (h:(d=.nils/\fs=[])∨∃y,d=.sl 2 (fs.map encF) y):dLen Tryz.prog S 51 d=some (.int .i64 fs.length):=by
 rcases h with ⟨rfl,rfl⟩ | ⟨y,rfl⟩
 ·simp only[push_cast]
 ·simp only[push_cast]
section
variable {n : Nat}
theorem fits28_s (hn:8000000<=n) {j:Jny} (hj:JnyB j):∃b,(b=true->JnyS j)/\∀st S,callD E (dcall E n) st S 8 [.agg j.enc]=some (.bool b,S):=by
 obtain⟨n,rfl⟩:∃k,n=k+1:=⟨n-1,by omega⟩
 have hp:pureL [.agg j.enc]=true:=by rw[pureL_cons,D.pure,Jny_pure];rfl
 obtain⟨bn,-,cn⟩:=near28_c (n:=n) (by omega) j.sale
 obtain⟨bt,htm,ct⟩:=times28_c (n:=n) j.l j.lx hj.len (by omega)
 simp only[Jny.enc]at hp ⊢
 have:WO (dcall E (n+1) 8 [.agg [.sl 5 (j.p.aps.map Apt.enc) j.p.apsx,.sl 3 (j.p.dts.map Dst.enc) j.p.dtsx,.sl 9 (j.t.fares.map Far.enc) j.t.fx,.sl 15 (j.t.rules.map Rul.enc) j.t.rx,.sl 3 (j.t.rous.map Rou.enc) j.t.ox,.sl 7 (j.t.taxes.map Tx.enc) j.t.tx,.sl 8 (j.l.map Wnt.enc) j.lx,.str j.pass,.int .i64 j.sale]] []) λr T=>∃b:Bool,r=.bool b/\(b=true->JnyS j):=by
  refine wo_dcall Tryz.func8 rfl (by decide) rfl 83 rfl (λa hal ha=>?_)
  have h0:a[0]?=some _:=ha 0 (by simp)
  clear ha
  obtain⟨S0,hS0⟩:∃S0,S0=[Ob.row 9 [[.sl 5 (j.p.aps.map Apt.enc) j.p.apsx,.sl 3 (j.p.dts.map Dst.enc) j.p.dtsx,.sl 9 (j.t.fares.map Far.enc) j.t.fx,.sl 15 (j.t.rules.map Rul.enc) j.t.rx,.sl 3 (j.t.rous.map Rou.enc) j.t.ox,.sl 7 (j.t.taxes.map Tx.enc) j.t.tx,.sl 8 (j.l.map Wnt.enc) j.lx,.str j.pass,.int .i64 j.sale]]]:=⟨_,rfl⟩
  have g0:S0[0]?=some (.row 9 [[.sl 5 (j.p.aps.map Apt.enc) j.p.apsx,.sl 3 (j.p.dts.map Dst.enc) j.p.dtsx,.sl 9 (j.t.fares.map Far.enc) j.t.fx,.sl 15 (j.t.rules.map Rul.enc) j.t.rx,.sl 3 (j.t.rous.map Rou.enc) j.t.ox,.sl 7 (j.t.taxes.map Tx.enc) j.t.tx,.sl 8 (j.l.map Wnt.enc) j.lx,.str j.pass,.int .i64 j.sale]]):=by rw[hS0];rfl
  refine wc_scut (λa V=>V=S0/\a.length=83/\a[1]?=some (.loc 0 0 0)) ?_ ?_
  ·simp only[push_cast,hal,h0,↓WX,simprocAttr]
   exact hS0.symm
  clear hS0
  rintro a V ⟨rfl,hal,h1⟩
  simp only[List.append_eq,Ze,Zz]
  cases c1:decide ((j.l.length:Int)<=4)
  ·simp only[push_cast,hal,h1,g0,c1,Tryz.f8,↓WX,simprocAttr]
   exact⟨false,rfl,λh=>by cases h⟩
  cases bn
  ·simp only[push_cast,hal,h1,g0,c1,cn,Tryz.f8,↓WX,simprocAttr]
   exact⟨false,rfl,λh=>by cases h⟩
  cases bt
  ·simp only[push_cast,hal,h1,g0,c1,cn,ct,Tryz.f8,↓WX,simprocAttr]
   exact⟨false,rfl,λh=>by cases h⟩
  cases c2:decide ((j.t.fares.length:Int)<=14)
  ·simp only[push_cast,hal,h1,g0,c1,cn,ct,c2,Tryz.f8,↓WX,simprocAttr]
   exact⟨false,rfl,λh=>by cases h⟩
  cases c3:decide ((j.t.rules.length:Int)<=8)
  ·simp only[push_cast,hal,h1,g0,c1,cn,ct,c2,c3,Tryz.f8,↓WX,simprocAttr]
   exact⟨false,rfl,λh=>by cases h⟩
  cases c4:decide ((j.t.rous.length:Int)<=8)
  ·simp only[push_cast,hal,h1,g0,c1,cn,ct,c2,c3,c4,Tryz.f8,↓WX,simprocAttr]
   exact⟨false,rfl,λh=>by cases h⟩
  cases c5:decide ((j.t.taxes.length:Int)<=8)
  ·simp only[push_cast,hal,h1,g0,c1,cn,ct,c2,c3,c4,c5,Tryz.f8,↓WX,simprocAttr]
   exact⟨false,rfl,λh=>by cases h⟩
  cases c6:decide ((j.p.aps.length:Int)<=12)
  ·simp only[push_cast,hal,h1,g0,c1,cn,ct,c2,c3,c4,c5,c6,Tryz.f8,↓WX,simprocAttr]
   exact⟨false,rfl,λh=>by cases h⟩
  cases c7:decide ((j.p.dts.length:Int)<=20)
  ·simp only[push_cast,hal,h1,g0,c1,cn,ct,c2,c3,c4,c5,c6,c7,Tryz.f8,↓WX,simprocAttr]
   exact⟨false,rfl,λh=>by cases h⟩
  have q1:=Zk c1
  have q2:=Zk c2
  have q3:=Zk c3
  have q4:=Zk c4
  have q5:=Zk c5
  have q6:=Zk c6
  have q7:=Zk c7
  have hF:JnyF j:=⟨by omega,by omega,by omega,by omega,by omega,by omega,by omega⟩
  obtain⟨d6,f6,z6,-,w6,k6⟩:=PCheck_s (n:=n) (p:=j.p) (by omega) (by omega) (by omega) (λc hc=>by have:=hj.apr c hc;unfold AptR;omega)
  obtain⟨dD,⟨fD,zD,-,wD⟩,kD⟩:=Check24_c (n:=n) (p:=j.p) (t:=j.t) (by omega) ⟨by omega,by omega,by omega,by omega,hj.far,hj.rul,hj.rou,hj.tax⟩ (by omega)
  obtain⟨dE,⟨fE,zE,-,wE⟩,kE⟩:=Check27_c (n:=n) (l:=j.t.taxes) (lx:=j.t.tx) (by omega) hj.tax (by omega)
  have y6:=len_fzP (S:=V) z6
  have yD:=len_fzP (S:=V) zD
  have yE:=len_fzP (S:=V) zE
  simp only[Plc.enc,Trf.enc]at k6 kD
  clear z6 zD zE
  simp only[push_cast]at y6 yD yE
  cases c8:decide ((f6.length:Int)=0)
  ·simp only[push_cast,hal,h1,g0,c1,cn,ct,c2,c3,c4,c5,c6,c7,k6,y6,c8,Tryz.f8,↓WX,simprocAttr]
   exact⟨false,rfl,λh=>by cases h⟩
  cases c9:decide ((fD.length:Int)=0)
  ·simp only[push_cast,hal,h1,g0,c1,cn,ct,c2,c3,c4,c5,c6,c7,k6,y6,c8,kD,yD,c9,Tryz.f8,↓WX,simprocAttr]
   exact⟨false,rfl,λh=>by cases h⟩
  simp only[push_cast,hal,h1,g0,c1,cn,ct,c2,c3,c4,c5,c6,c7,k6,y6,c8,kD,yD,c9,kE,yE,Tryz.f8,↓WX,simprocAttr]
  have e6:f6=[]:=Yp (by have:=Zk c8;omega)
  have eD:fD=[]:=Yp (by have:=Zk c9;omega)
  exact⟨_,rfl,λh=>⟨hF,w6 e6,(wD.2 eD).1,(wD.2 eD).2,wE.2 (Yp (by have:=Zk h;omega)),htm rfl⟩⟩
 obtain⟨_,T,ho,b,rfl,hb⟩:=this
 exact⟨b,hb,λst S=>callD_pure rfl hp ho rfl⟩
end
def pctF (a h:Int):Int×Int:=if 1099511627776<a then (0,11) else if 1099511627776<(2*(a*h)+10000) / 20000 then (0,11) else ((2*(a*h)+10000) / 20000,0)
def lvlF (m k:Int):Int×Int:=
 if m<0∨1099511627776<m∨k<1∨1099511627776<k then (0,2)
 else if m*100<=k*100 then (0,0) else if m*100<=k*105 then (5,0) else if m*100<=k*110 then (10,0) else if m*100<=k*115 then (15,0) else if m*100<=k*120 then (20,0) else if m*100<=k*125 then (25,0) else (0,22)
def aplF (a k:Int):Int×Int:=if k<0∨25<k∨¬k.tmod 5=0 then (0,2) else pctF a ((100+k)*100)
def pcsL (o:Option Rul):List (ByteArray×Int):=match o with |none=>[] |some r=>r.pcs
def payF (o:Option Rul) (s:ByteArray) (a:Int):Int×Int:=match (pcsL o).find? λp=>decide (p.1=s) with |none=>pctF a 10000 |some p=>pctF a (100*p.2)
theorem uw {x:Int} (h0:0<=x) (h1:x<=18446744073709551615):IntKind.u64.wrap x=x:=by
 rw[IntKind.wrap_u64]
 omega
section
variable {n : Nat}
theorem PFits_x (x:Int) (hn:1<=n):∀st S,callD E (dcall E n) st S 134 [.int .i64 x]=some (.bool (decide (-1099511627776<=x) && decide (x<=1099511627776)),S):=by
 obtain⟨m,rfl⟩:∃m,n=m+1:=⟨n-1,by omega⟩
 have:WO (dcall E (m+1) 134 [.int .i64 x] []) λr T=>r=.bool (decide (-1099511627776<=x) && decide (x<=1099511627776)):=by
  refine wo_dcall Tryz.func134 rfl (by decide) rfl 9 rfl (λa hal ha=>?_)
  have h0:a[0]?=some _:=ha 0 (by simp)
  clear ha
  cases e:decide (-1099511627776<=x)
  ·simp only[push_cast,hal,h0,e,Xe,Tryz.f134,↓WX,simprocAttr,WY]
  ·simp only[push_cast,hal,h0,e,Xe,Tryz.f134,↓WX,simprocAttr,WY]
 obtain⟨_,T,ho,rfl⟩:=this
 exact λst S=>callD_pure rfl rfl ho rfl
theorem PSize_x (x:Int) (h0:0<=x) (h1:x<=1099511627776) (hn:1<=n):∀st S,callD E (dcall E n) st S 181 [.int .i64 x]=some (.int .u64 x,S):=by
 obtain⟨m,rfl⟩:∃m,n=m+1:=⟨n-1,by omega⟩
 have q:(x<0)=False:=eq_false (by omega)
 have w:IntKind.u64.wrap x=x:=uw (by omega) (by omega)
 have:WO (dcall E (m+1) 181 [.int .i64 x] []) λr T=>r=.int .u64 x:=by
  refine wo_dcall Tryz.func181 rfl (by decide) rfl 10 rfl (λa hal ha=>?_)
  have h0:a[0]?=some _:=ha 0 (by simp)
  clear ha
  simp only[push_cast,hal,h0,q,w,Tryz.f181,↓WX,simprocAttr]
 obtain⟨_,T,ho,rfl⟩:=this
 exact λst S=>callD_pure rfl rfl ho rfl
end
structure Srch where
 n:Nat
 opts:Nat->List Prt
 least:Nat->Option Int
 mix:List Prt->Bool
 chk:List Prt->Bool
 prc:List Prt->Option Quo
def Srch.cands (s:Srch):Nat->Nat->List (List Prt)
 |0,i=>if i=s.n then [[]] else []
 |k+1,i=>if i=s.n then [[]] else (s.opts i).flatMap λx=>(s.cands k x.to.toNat).map (x:: ·)
def Srch.fin (s:Srch) (l:List Prt) (b:Option Quo):Option Quo:=
 if s.chk l=true then match s.prc l with
  |none=>b
  |some q=>match b with
   |none=>some q
   |some c=>if betterF q c=true then some q else some c
 else b
def Srch.wrt (s:Srch) (l:List Prt) (sum:Int) (b:Option Quo) (x:Prt):Bool:=
 match s.least x.to.toNat with
 |none=>false
 |some r=>if sum+x.am+r>1099511627776 then false else
  (match b with
   |none=>true
   |some c=>if sum+x.am+r>c.fare then false else
    if sum+x.am+r=c.fare/\(l.length+1+(if x.to<s.n then 1 else 0):Nat)>=c.parts.length then false else true) && s.mix (l++[x])
def Srch.frm (s:Srch):Nat->Nat->List Prt->Int->Option Quo->Option Quo
 |0,i,l,_,b=>if i=s.n then s.fin l b else b
 |k+1,i,l,sum,b=>if i=s.n then s.fin l b else
   (s.opts i).foldl (λb x=>if s.wrt l sum b x=true then s.frm k x.to.toNat (l++[x]) (sum+x.am) b else b) b
def amP:List Prt->Int
 | []=>0
 |x::xs=>x.am+amP xs
theorem amP_app:∀(l m:List Prt),amP (l++m)=amP l+amP m
 | [],m=>by simp[amP]
 |x::xs,m=>by rw[Ze,amP,amP,amP_app xs m];omega
structure Srch.Ok (s:Srch):Prop where
 to:∀i,∀x∈s.opts i,(i:Int)<x.to/\x.to<=s.n
 am:∀i,∀x∈s.opts i,0<=x.am
 ord:∀i,(s.opts i).Pairwise λx y=>x.to<y.to∨(x.to=y.to/\x.fa<y.fa)
 no:∀i k,i<=s.n->s.least i=none->s.cands k i=[]
 lo:∀i k r,i<=s.n->s.least i=some r->∀l∈s.cands k i,r<=amP l
 mx:∀l m,s.chk (l++m)=true->s.mix l=true
 pr:∀l q,s.prc l=some q->q.parts=l/\q.fare=amP l/\q.fare<=1099511627776
 mono:∀l m p q,s.prc l=some p->s.prc m=some q->p.fare<q.fare->p.total<q.total
 same:∀l m p q,s.prc l=some p->s.prc m=some q->p.fare=q.fare->p.total=q.total
theorem ltP_pre:∀(l:List Prt) (x y:Prt) (m k:List Prt),(x.to<y.to∨(x.to=y.to/\x.fa<y.fa))->ltP (l++x::m) (l++y::k)=true
 | [],x,y,m,k,h=>by
  rw[Zz,Zz,ltP]
  by_cases c:x.to=y.to
  ·rw[if_pos c]
   have h2:x.fa<y.fa:=by omega
   rw[if_neg (by omega)]
   exact Yn h2
  ·rw[if_neg c]
   exact Yn (by omega)
 |z::zs,x,y,m,k,h=>by
  rw[Ze,Ze,ltP,if_pos rfl,if_pos rfl]
  exact ltP_pre zs x y m k h
theorem ltP_neg:∀ {a b c:List Prt},ltP a b=false->ltP b c=false->a.length=b.length->b.length=c.length->ltP a c=false
 | [],[],_,_,h,_,_=>h
 | [],_::_,_,_,_,h,_=>by cases h
 |_::_,[],_,_,_,h,_=>by cases h
 |_::_,_::_,[],_,_,_,h=>by cases h
 |x::xs,y::ys,z::zs,h,g,l1,l2=>by
  rw[ltP]at h g ⊢
  rw[Zd,Zd]at l1 l2
  by_cases c1:x.to=y.to
  ·rw[if_pos c1]at h
   by_cases c2:y.to=z.to
   ·rw[if_pos c2]at g
    rw[if_pos (c1.trans c2)]
    by_cases c3:x.fa=y.fa
    ·rw[if_pos c3]at h
     by_cases c4:y.fa=z.fa
     ·rw[if_pos c4]at g
      rw[if_pos (c3.trans c4)]
      exact ltP_neg h g (by omega) (by omega)
     ·rw[if_neg c4]at g
      have:=Zl g
      rw[if_neg (by omega)]
      exact Ym (by omega)
    ·rw[if_neg c3]at h
     have:=Zl h
     by_cases c4:y.fa=z.fa
     ·rw[if_neg (by omega)]
      exact Ym (by omega)
     ·rw[if_neg c4]at g
      have:=Zl g
      rw[if_neg (by omega)]
      exact Ym (by omega)
   ·rw[if_neg c2]at g
    have:=Zl g
    rw[if_neg (by omega)]
    exact Ym (by omega)
  ·rw[if_neg c1]at h
   have:=Zl h
   by_cases c2:y.to=z.to
   ·rw[if_neg (by omega)]
    exact Ym (by omega)
   ·rw[if_neg c2]at g
    have:=Zl g
    rw[if_neg (by omega)]
    exact Ym (by omega)
theorem Srch.cands_len {s:Srch}:∀ {k i:Nat} {l:List Prt},l∈s.cands k i->i<s.n->1<=l.length:=by
 intro k i l h hi
 cases k with
 |zero=>rw[Srch.cands,if_neg (by omega)]at h;cases h
 |succ k=>
  rw[Srch.cands,if_neg (by omega)]at h
  obtain⟨x,-,hx⟩:=List.mem_flatMap.1 h
  obtain⟨m,-,rfl⟩:=Zy.1 hx
  exact Nat.le_add_left 1 m.length
theorem Srch.skip {s:Srch} (h:s.Ok) {l:List Prt} {b:Option Quo} {i k:Nat} {x:Prt} (hx:x∈s.opts i) (hb:∀c,b=some c->(∃p,s.prc p=some c)/\∀m∈s.cands k x.to.toNat,ltP c.parts (l++x::m)=true) (hw:s.wrt l (amP l) b x=false):∀m∈s.cands k x.to.toNat,s.fin (l++x::m) b=b:=by
 intro m hm
 obtain⟨t1,t2⟩:=h.to i x hx
 have tn:x.to.toNat<=s.n:=by omega
 unfold Srch.fin
 by_cases hc:s.chk (l++x::m)=true
 case neg=>rw[if_neg hc]
 rw[if_pos hc]
 cases hp:s.prc (l++x::m) with
 |none=>rfl
 |some q=>
  obtain⟨q1,q2,q3⟩:=h.pr _ _ hp
  rw[amP_app,amP]at q2
  have hmx:s.mix (l++[x])=true:=h.mx (l++[x]) m (by simpa using hc)
  unfold Srch.wrt at hw
  cases hl:s.least x.to.toNat with
  |none=>rw[h.no _ k tn hl]at hm;cases hm
  |some r=>
   rw[hl]at hw
   dsimp only at hw
   have hr:=h.lo _ k r tn hl m hm
   rw[if_neg (by omega),hmx,Yj]at hw
   cases b with
   |none=>cases hw
   |some c=>
    dsimp only at hw ⊢
    obtain⟨⟨p,hcp⟩,hlt⟩:=hb c rfl
    have hlt:=hlt m hm
    obtain⟨c1,c2,c3⟩:=h.pr _ _ hcp
    have hnb:betterF q c=false:=by
     unfold betterF
     have hm1:(if x.to<s.n then 1 else 0)<=m.length:=by
      by_cases e:x.to<s.n
      ·rw[if_pos e]
       exact Srch.cands_len hm (by omega)
      ·rw[if_neg e]
       exact Xb _
     generalize (if x.to<s.n then 1 else 0)=one at*
     by_cases e1:amP l+x.am+r>c.fare
     ·have:=h.mono _ _ _ _ hcp hp (by omega)
      rw[if_neg (by omega)]
      exact Ym (by omega)
     rw[if_neg e1]at hw
     by_cases e2:amP l+x.am+r=c.fare/\l.length+1+one>=c.parts.length
     ·obtain⟨e2,e3⟩:=e2
      rcases Int.lt_or_eq_of_le (show c.fare<=q.fare by omega) with g |g
      ·have:=h.mono _ _ _ _ hcp hp g
       rw[if_neg (by omega)]
       exact Ym (by omega)
      ·rw[if_pos (h.same _ _ _ _ hcp hp g).symm]
       have hql:q.parts.length=l.length+1+m.length:=by rw[q1,Yd,Zd];omega
       by_cases c4:q.parts.length=c.parts.length
       ·rw[if_pos c4,q1]
        exact ltP_asym hlt
       ·rw[if_neg c4]
        exact Ym (by omega)
     ·rw[if_neg e2]at hw
      cases hw
    rw[hnb,if_neg (by simp)]
theorem Srch.frm_fold {s:Srch} (h:s.Ok):∀(k i:Nat) (l:List Prt) (b:Option Quo),i+k=s.n∨(i<=s.n/\s.n<=i+k)->
  (∀c,b=some c->(∃p,s.prc p=some c)/\∀m∈s.cands k i,ltP c.parts (l++m)=true)->
  s.frm k i l (amP l) b=(s.cands k i).foldl (λb m=>s.fin (l++m) b) b/\
  ∀c,s.frm k i l (amP l) b=some c->(∃p,s.prc p=some c)/\(b=some c∨∃m∈s.cands k i,c.parts=l++m):=by
 intro k
 have fin1:∀(l:List Prt) (b:Option Quo),(∀c,b=some c->∃p,s.prc p=some c)->∀c,s.fin l b=some c->(∃p,s.prc p=some c)/\(b=some c∨∃m∈[[]],c.parts=l++m):=by
  intro l b hb c hc
  unfold Srch.fin at hc
  split at hc
  ·split at hc
   ·exact⟨hb c hc,.inl hc⟩
   ·rename_i q hq
    have hq1:=(h.pr _ _ hq).1
    split at hc
    ·obtain rfl:=Yi hc
     exact⟨⟨_,hq⟩,.inr ⟨[],List.mem_singleton_self _,by simpa using hq1⟩⟩
    ·rename_i c'
     split at hc
     ·obtain rfl:=Yi hc
      exact⟨⟨_,hq⟩,.inr ⟨[],List.mem_singleton_self _,by simpa using hq1⟩⟩
     ·exact⟨hb c hc,.inl hc⟩
  ·exact⟨hb c hc,.inl hc⟩
 induction k with
 |zero=>
  intro i l b hk hb
  have hi:i=s.n:=by omega
  rw[Srch.frm,Srch.cands,if_pos hi,if_pos hi]
  refine⟨by rw[List.foldl_cons,List.foldl_nil,Za],fin1 l b λc hc=>(hb c hc).1⟩
 |succ k ih=>
  intro i l b hk hb
  by_cases hi:i=s.n
  ·rw[Srch.frm,Srch.cands,if_pos hi,if_pos hi]
   refine⟨by rw[List.foldl_cons,List.foldl_nil,Za],fin1 l b λc hc=>(hb c hc).1⟩
  rw[Srch.frm,Srch.cands,if_neg hi,if_neg hi]
  rw[Srch.cands,if_neg hi]at hb
  have key:∀os:List Prt,(∀x∈os,x∈s.opts i)->(os.Pairwise λx y=>x.to<y.to∨(x.to=y.to/\x.fa<y.fa))->∀b:Option Quo,
    (∀c,b=some c->(∃p,s.prc p=some c)/\∀m∈(os.flatMap λx=>(s.cands k x.to.toNat).map (x:: ·)),ltP c.parts (l++m)=true)->
    os.foldl (λb x=>if s.wrt l (amP l) b x=true then s.frm k x.to.toNat (l++[x]) (amP l+x.am) b else b) b=(os.flatMap λx=>(s.cands k x.to.toNat).map (x:: ·)).foldl (λb m=>s.fin (l++m) b) b/\
    ∀c,os.foldl (λb x=>if s.wrt l (amP l) b x=true then s.frm k x.to.toNat (l++[x]) (amP l+x.am) b else b) b=some c->(∃p,s.prc p=some c)/\(b=some c∨∃m∈(os.flatMap λx=>(s.cands k x.to.toNat).map (x:: ·)),c.parts=l++m):=by
   intro os
   induction os with
   |nil=>
    intro _ _ b hb
    exact⟨rfl,λc hc=>⟨(hb c hc).1,.inl hc⟩⟩
   |cons x xs ihx=>
    intro hin hord b hb
    have hx:=hin x (Yx ..)
    obtain⟨t1,t2⟩:=h.to i x hx
    rw[List.flatMap_cons,List.foldl_append,List.foldl_cons]
    rw[List.flatMap_cons]at hb
    have hbx:∀c,b=some c->(∃p,s.prc p=some c)/\∀m∈s.cands k x.to.toNat,ltP c.parts (l++x::m)=true:=λc hc=>⟨(hb c hc).1,λm hm=>(hb c hc).2 _ (List.mem_append_left _ (List.mem_map_of_mem hm))⟩
    obtain⟨b',hb'⟩:∃b',b'=(if s.wrt l (amP l) b x=true then s.frm k x.to.toNat (l++[x]) (amP l+x.am) b else b):=⟨_,rfl⟩
    have h1:b'=((s.cands k x.to.toNat).map (x:: ·)).foldl (λb m=>s.fin (l++m) b) b/\∀c,b'=some c->(∃p,s.prc p=some c)/\(b=some c∨∃m∈s.cands k x.to.toNat,c.parts=l++x::m):=by
     rw[List.foldl_map]
     split at hb'
     ·rename_i hw
      have ha:amP l+x.am=amP (l++[x]):=by rw[amP_app,amP,amP];omega
      rw[ha]at hb'
      obtain⟨e1,e2⟩:=ih x.to.toNat (l++[x]) b (by omega) (λc hc=>⟨(hbx c hc).1,λm hm=>by rw[Zp];exact (hbx c hc).2 m hm⟩)
      rw[hb']
      refine⟨?_,λc hc=>?_⟩
      ·rw[e1]
       have:(λ(b:Option Quo) (m:List Prt)=>s.fin (l++[x]++m) b)=λb m=>s.fin (l++x::m) b:=by
        funext b m
        rw[Zp]
        rfl
       rw[this]
      ·obtain⟨g1,g2⟩:=e2 c hc
       refine⟨g1,g2.imp id λ⟨m,hm,e⟩=>⟨m,hm,by rw[e,Zp];rfl⟩⟩
     ·rename_i hw
      have hsk:=Srch.skip h hx hbx (by simpa using hw)
      rw[hb']
      refine⟨?_,λc hc=>⟨(hbx c hc).1,.inl hc⟩⟩
      clear hb'
      generalize s.cands k x.to.toNat=ms at hsk
      clear hbx hw
      induction ms with
      |nil=>rfl
      |cons m ms ihm=>
       rw[List.foldl_cons,hsk m (Yx ..)]
       exact ihm λm' hm'=>hsk m' (Yv _ hm')
    rw[<-hb',<-h1.1]
    obtain⟨f1,f2⟩:=ihx (λy hy=>hin y (Yv _ hy)) (List.pairwise_cons.1 hord).2 b' (λc hc=>by
     obtain⟨g1,g2⟩:=h1.2 c hc
     refine⟨g1,λm hm=>?_⟩
     rcases g2 with g2 | ⟨m1,hm1,e⟩
     ·exact (hb c g2).2 m (Zr _ hm)
     ·obtain⟨y,hy,hmy⟩:=List.mem_flatMap.1 hm
      obtain⟨m2,-,rfl⟩:=Zy.1 hmy
      rw[e]
      exact ltP_pre l x y m1 m2 ((List.pairwise_cons.1 hord).1 y hy))
    refine⟨f1,λc hc=>?_⟩
    obtain⟨g1,g2⟩:=f2 c hc
    refine⟨g1,?_⟩
    rcases g2 with g2 | ⟨m,hm,e⟩
    ·rcases (h1.2 c g2).2 with g3 | ⟨m,hm,e⟩
     ·exact .inl g3
     ·exact .inr ⟨x::m,List.mem_append_left _ (List.mem_map_of_mem hm),e⟩
    ·exact .inr ⟨m,Zr _ hm,e⟩
  exact key (s.opts i) (λx hx=>hx) (h.ord i) b hb
theorem Srch.fold_best (s:Srch):∀(L:List (List Prt)) (b:Option Quo),
  (L.foldl (λb m=>s.fin m b) b=none->b=none/\∀m∈L,s.chk m=true->s.prc m=none)/\
  ∀c,L.foldl (λb m=>s.fin m b) b=some c->(b=some c∨∃m∈L,s.chk m=true/\s.prc m=some c)/\(∀d,b=some d->betterF d c=false)/\∀m∈L,s.chk m=true->∀q,s.prc m=some q->betterF q c=false:=by
 intro L
 have self:∀c,betterF c c=false:=λc=>by
  cases h:betterF c c with
  |false=>rfl
  |true=>exact (betterF_asym h).symm.trans h |>.symm
 induction L with
 |nil=>
  intro b
  refine⟨λh=>⟨h,λm hm=>by cases hm⟩,λc hc=>⟨.inl hc,λd hd=>?_,λm hm=>by cases hm⟩⟩
  rw[List.foldl_nil,hd]at hc
  obtain rfl:=Yi hc
  exact self d
 |cons m L ih=>
  intro b
  rw[List.foldl_cons]
  obtain⟨i1,i2⟩:=ih (s.fin m b)
  refine⟨λh=>?_,λc hc=>?_⟩
  ·obtain⟨g1,g2⟩:=i1 h
   have:b=none/\(s.chk m=true->s.prc m=none):=by
    unfold Srch.fin at g1
    split at g1
    ·split at g1
     ·rename_i e
      exact⟨g1,λ_=>e⟩
     ·split at g1
      ·cases g1
      ·split at g1 <;> cases g1
    ·rename_i e
     exact⟨g1,λh=>(e h).elim⟩
   refine⟨this.1,λm' hm'=>?_⟩
   rcases List.mem_cons.1 hm' with rfl |hm'
   ·exact this.2
   ·exact g2 m' hm'
  ·obtain⟨g1,g2,g3⟩:=i2 c hc
   have key:(s.fin m b=b/\(s.chk m=true->∀q,s.prc m=some q->∃d,b=some d/\betterF q d=false))∨∃q,s.chk m=true/\s.prc m=some q/\s.fin m b=some q/\∀d,b=some d->betterF q d=true:=by
    unfold Srch.fin
    by_cases hk:s.chk m=true
    ·rw[if_pos hk]
     cases hp:s.prc m with
     |none=>exact .inl ⟨rfl,λ_ q hq=>by cases hq⟩
     |some q=>
      cases b with
      |none=>exact .inr ⟨q,hk,rfl,rfl,λd hd=>by cases hd⟩
      |some d=>
       dsimp only
       by_cases hb:betterF q d=true
       ·rw[if_pos hb]
        exact .inr ⟨q,hk,rfl,rfl,λd' hd'=>by obtain rfl:=Yi hd';exact hb⟩
       ·rw[if_neg hb]
        exact .inl ⟨rfl,λ_ q' hq'=>⟨d,rfl,by obtain rfl:=Yi hq';simpa using hb⟩⟩
    ·rw[if_neg hk]
     exact .inl ⟨rfl,λh=>(hk h).elim⟩
   have step:∀q d:Quo,betterF q d=false->betterF d c=false->betterF q c=false:=λq d h1 h2=>by
    cases hh:betterF q c with
    |false=>rfl
    |true=>
     -- total, count and order of c lie behind q; d does not lie behind q, and c not behind d
     exfalso
     unfold betterF at*
     by_cases t1:q.total=d.total
     ·rw[if_pos t1]at h1
      by_cases t2:d.total=c.total
      ·rw[if_pos t2]at h2
       rw[if_pos (t1.trans t2)]at hh
       by_cases l1:q.parts.length=d.parts.length
       ·rw[if_pos l1]at h1
        by_cases l2:d.parts.length=c.parts.length
        ·rw[if_pos l2]at h2
         rw[if_pos (l1.trans l2)]at hh
         exact absurd hh (by rw[ltP_neg h1 h2 l1 l2];simp)
        ·rw[if_neg l2]at h2
         have:=Zl h2
         rw[if_neg (by omega)]at hh
         have:=Zk hh
         omega
       ·rw[if_neg l1]at h1
        have:=Zl h1
        by_cases l2:d.parts.length=c.parts.length
        ·rw[if_neg (by omega)]at hh
         have:=Zk hh
         omega
        ·rw[if_neg l2]at h2
         have:=Zl h2
         rw[if_neg (by omega)]at hh
         have:=Zk hh
         omega
      ·rw[if_neg t2]at h2
       have:=Zl h2
       rw[if_neg (by omega)]at hh
       have:=Zk hh
       omega
     ·rw[if_neg t1]at h1
      have:=Zl h1
      by_cases t2:d.total=c.total
      ·rw[if_neg (by omega)]at hh
       have:=Zk hh
       omega
      ·rw[if_neg t2]at h2
       have:=Zl h2
       rw[if_neg (by omega)]at hh
       have:=Zk hh
       omega
   rcases key with ⟨e,hk⟩ | ⟨q,hk1,hk2,e,hd⟩
   ·rw[e]at g1 g2
    refine⟨g1.imp id λ⟨m',h1,h2⟩=>⟨m',Yv _ h1,h2⟩,g2,λm' hm' hc' q hq=>?_⟩
    rcases List.mem_cons.1 hm' with rfl |hm'
    ·obtain⟨d,hd,hb⟩:=hk hc' q hq
     exact step q d hb (g2 d hd)
    ·exact g3 m' hm' hc' q hq
   ·have hqc:=g2 q e
    refine⟨.inr ?_,λd hd'=>?_,λm' hm' hc' q' hq'=>?_⟩
    ·rcases g1 with g1 | ⟨m',h1,h2⟩
     ·rw[e]at g1
      obtain rfl:=Yi g1
      exact⟨m,Yx ..,hk1,hk2⟩
     ·exact⟨m',Yv _ h1,h2⟩
    ·exact step d q (betterF_asym (hd d hd')) hqc
    ·rcases List.mem_cons.1 hm' with rfl |hm'
     ·rw[hk2]at hq'
      obtain rfl:=Yi hq'
      exact hqc
     ·exact g3 m' hm' hc' q' hq'
end Go.Proofs.YtaklebjoenophaaGreat.Dm
