/-
  The miles of a way, the way of a fare: the program, exactly.
  The search for the cheapest price of a journey: the ways, the least amounts and the prices as plain data; the law of the search holds of them.
-/
import Derived.Test.YtaklebjoenophaaGreatPrS
import Derived.Test.YtaklebjoenophaaGreatPqH
import Derived.Test.YtaklebjoenophaaGreatPqF
set_option maxHeartbeats 64000000
set_option maxRecDepth 100000
set_option linter.unusedSimpArgs false
set_option linter.unusedVariables false
namespace Go.Proofs.YtaklebjoenophaaGreat.Dm
open Go Gw
structure PlG (p:Plc):Prop where
 apl:p.aps.length<=1048576
 sh:∀a∈p.aps,a.sh.length<=1048576
 so:∀a∈p.aps,ShOk a.sh
 dl:p.dts.length<=20
 cz:∀a∈p.aps,a.city.size<=1048576
 dz:∀x∈p.dts,x.fr.size<=1048576/\x.to.size<=1048576
structure TrG (t:Trf):Prop where
 fl:t.fares.length<=1000
 am:∀f∈t.fares,0<=f.amt/\f.amt<=1099511627776
 rl:t.rules.length<=1048576
 cb:∀r∈t.rules,r.comb.length<=1048576
 cn:∀r∈t.rules,bulkL r.when.enc<=1048576
 pl:∀r∈t.rules,r.pcs.length<=1048576
 pc:∀r∈t.rules,∀p∈r.pcs,0<=p.2/\p.2<=1000
 ol:t.rous.length<=1048576
 lk:∀r∈t.rous,r.links.length<=1048576
 tl:t.taxes.length<=90000
 tg:∀x∈t.taxes,TxG x
 tf:∀x∈t.taxes,x.free.length<=1048576
open Classical in
noncomputable def milN (p:Plc) (s t:ByteArray):Int×Int:=if h:∃z:Int×Int,MilS p s t z.1 z.2 then h.choose else (0,0)
def wayF (mi:ByteArray->ByteArray->Int×Int):List ByteArray->Int->Int×Int
 |x::y::r,s=>if (mi x y).2=0 then wayF mi (y::r) (IntKind.i64.wrap (s+(mi x y).1)) else (0,(mi x y).2)
 |_,s=>(s,0)
theorem wayF_drop {mi:ByteArray->ByteArray->Int×Int} {cs:List ByteArray} {i:Nat} {x y:ByteArray} (hx:cs[i]?=some x) (hy:cs[i+1]?=some y) (s:Int):wayF mi (cs.drop i) s=if (mi x y).2=0 then wayF mi (cs.drop (i+1)) (IntKind.i64.wrap (s+(mi x y).1)) else (0,(mi x y).2):=by
 rw[drop_at hx,drop_at hy,wayF]
theorem wayF_end {mi:ByteArray->ByteArray->Int×Int} {cs:List ByteArray} {i:Nat} (h:cs.length<=i+1) (s:Int):wayF mi (cs.drop i) s=(s,0):=by
 have:(cs.drop i).length<=1:=by rw[Zo];omega
 generalize cs.drop i=l at*
 match l,this with
 | [],_=>rfl
 | [x],_=>rfl
noncomputable def ofN (p:Plc) (cs:List ByteArray) (k:Int):Int×Int:=if (wayF (milN p) cs 0).2=0 then lvlF (wayF (milN p) cs 0).1 k else (0,(wayF (milN p) cs 0).2)
def rouT (t:Trf) (k:Int):Option Rou:=t.rous.find? λr=>decide (r.num=k)
def rulT (t:Trf) (k:Int):Option Rul:=t.rules.find? λr=>decide (r.num=k)
noncomputable def wyN (p:Plc) (t:Trf) (f:Far) (cs:List ByteArray):Int:=
 if f.rou=0 then 0 else if ralF (rouT t f.rou) cs=true then if milF (rouT t f.rou)<=0 then 0 else (ofN p cs (milF (rouT t f.rou))).2 else 21
theorem rou_litM (o:Option Rou):∃c0 d:D,rouD o=.agg [c0,d,.int .i64 (milF o)]/\c0.one=true/\d.one=true:=by
 cases o with
 |none=>exact⟨_,_,rfl,rfl,rfl⟩
 |some r=>exact⟨_,_,rfl,rfl,rfl⟩
section
variable {n : Nat}
theorem PMiles_n {p:Plc} (hp:PlG p) (hn:50000000<=n) (s t:ByteArray):∀st S,callD E (dcall E n) st S 179 [.agg p.enc,.str s,.str t]=some (.tup [.int .i64 (milN p s t).1,.int .i64 (milN p s t).2],S):=by
 obtain⟨q,e,h,c⟩:=PMiles_x (n:=n) p hp.apl hp.dl hp.cz hp.dz hn s t
 have hx:∃z:Int×Int,MilS p s t z.1 z.2:=⟨(q,e),h⟩
 have:milN p s t=(q,e):=by
  unfold milN
  rw[dif_pos hx]
  obtain⟨e1,e2⟩:=hx.choose_spec.uniq h
  exact Prod.ext e1 e2
 rw[this]
 exact c
theorem PWay_x {p:Plc} (hp:PlG p) (c:List ByteArray) (cx:Bool) (hc:c.length<=1048577) (hn:50000001<=n):∀st S,callD E (dcall E n) st S 125 [.agg p.enc,.sl 1 (c.map Cnd.encT) cx]=some (.tup [.int .i64 (wayF (milN p) c 0).1,.int .i64 (wayF (milN p) c 0).2],S):=by
 obtain⟨m,rfl⟩:∃m,n=m+1:=⟨n-1,by omega⟩
 have cm:=λx y=>PMiles_n (n:=m) hp (by omega) x y
 generalize milN p=mi at*
 obtain⟨z,hz⟩:∃z,z=wayF mi c 0:=⟨_,rfl⟩
 rw[<-hz]
 have:WO (dcall E (m+1) 125 [.agg p.enc,.sl 1 (c.map Cnd.encT) cx] []) λr T=>r=.tup [.int .i64 z.1,.int .i64 z.2]:=by
  simp only[Plc.enc]at cm ⊢
  refine wo_dcall Tryz.func125 rfl (by decide) rfl 37 rfl (λa hal ha=>?_)
  have h0:a[0]?=some _:=ha 0 (by simp)
  have h1:a[1]?=some _:=ha 1 (by simp)
  clear ha
  obtain⟨V0,hV0⟩:∃V0:List Ob,V0=[Ob.row 2 [[.sl 5 (p.aps.map Apt.enc) p.apsx,.sl 3 (p.dts.map Dst.enc) p.dtsx]]]:=⟨_,rfl⟩
  have g0:V0[0]?=some (Ob.row 2 [[.sl 5 (p.aps.map Apt.enc) p.apsx,.sl 3 (p.dts.map Dst.enc) p.dtsx]]):=by rw[hV0];rfl
  refine wc_scut (λa V=>V=V0/\a.length=37/\a[1]?=some (.sl 1 (c.map Cnd.encT) cx)/\a[2]?=some (.loc 0 0 0)) ?_ ?_
  ·simp only[push_cast,hal,h0,h1,↓WX,simprocAttr]
   exact hV0.symm
  clear hV0
  rintro a V ⟨rfl,hal,h1,h2⟩
  refine wc_scut (λa W=>W=V/\a.length=37/\a[1]?=some (.sl 1 (c.map Cnd.encT) cx)/\a[2]?=some (.loc 0 0 0)/\a[6]?=some (.int .i64 0)) ?_ ?_
  ·simp only[push_cast,hal,h1,h2,↓WX,simprocAttr]
  rintro a W ⟨rfl,hal,h1,h2,h6⟩
  refine wc_rcut (λa T=>∃v:Int,z=(v,0)/\a[6]?=some (.int .i64 v)/\a.length=37) ?_ ?_
  ·simp only[push_cast,↓WX,simprocAttr]
   refine wl_loop (λi a T=>(T=W/\(∃j:Int,a[7]?=some (.int .i64 j)/\j=(i:Int)+1)/\∃v:Int,a[6]?=some (.int .i64 v)/\z=wayF mi (c.drop i) v)/\a.length=37/\a[1]?=some (.sl 1 (c.map Cnd.encT) cx)/\a[2]?=some (.loc 0 0 0)) c.length ?_ (by omega) ?_
   ·simp only[push_cast,hal,h1,h2,h6,simprocAttr,WY]
    exact⟨⟨1,rfl,rfl⟩,0,rfl,hz⟩
   clear hz
   rintro i a T hi ⟨⟨rfl,⟨j,h7,hj⟩,v,h6,e⟩,hal,h1,h2⟩
   by_cases hjl:j<c.length
   case neg=>
    rw[wayF_end (by omega)]at e
    simp only[push_cast,hal,h1,h6,h7,hjl,↓WX,simprocAttr,WY]
    exact⟨v,e,rfl⟩
   have hlt:i<c.length:=by omega
   have hlt1:i+1<c.length:=by omega
   obtain⟨x,hx⟩:∃x,c[i]?=some x:=⟨c[i],by simp⟩
   obtain⟨y,hy⟩:∃y,c[i+1]?=some y:=⟨c[i+1],by simp⟩
   have hj0:j-1=(i:Int):=by omega
   have hjn:j.toNat=i+1:=by omega
   have hge:(0<=j)=True:=eq_true (by omega)
   have hwj:IntKind.i64.wrap (j-1)=(i:Int):=by rw[hj0];exact wrap_ok (by omega) (by omega)
   have cm:=cm x y
   rw[wayF_drop hx hy]at e
   generalize mi x y=q at*
   obtain⟨q1,q2⟩:=q
   dsimp only at cm e
   by_cases c2:q2=0
   ·rw[if_pos c2]at e
    subst c2
    simp(maxSteps:=1000000)(disch:=omega)only[push_cast,not_true_eq_false,hal,h1,h2,h6,h7,g0,hjl,hlt,hx,hy,hwj,hjn,hge,cm,Cnd.encT,wrap_ok,decide_true,true_and,↓WX,simprocAttr]
    exact⟨⟨_,rfl,by push_cast<;>omega⟩,_,rfl,e⟩
   ·rw[if_neg c2]at e
    subst e
    simp only[push_cast,hal,h1,h2,h7,g0,hjl,hx,hy,hwj,hjn,hge,cm,c2,Cnd.encT,Tryz.f125,↓WX,simprocAttr,WY]
  rintro a T ⟨v,rfl,h6,hal⟩
  simp only[push_cast,hal,h6,Tryz.f125,↓WX,simprocAttr]
 obtain⟨_,T,hr,rfl⟩:=this
 exact λst S=>callD_pure rfl (by simp only[pureL_cons,pureL_nil,Plc_pure,D.pure,Cnd.encT_pure,Yj]) hr rfl
theorem POf_x {p:Plc} (hp:PlG p) (c:List ByteArray) (cx:Bool) (hc:c.length<=1048577) (k:Int) (hn:50000002<=n):∀st S,callD E (dcall E n) st S 67 [.agg p.enc,.sl 1 (c.map Cnd.encT) cx,.int .i64 k]=some (.tup [.int .i64 (ofN p c k).1,.int .i64 (ofN p c k).2],S):=by
 obtain⟨m,rfl⟩:∃m,n=m+1:=⟨n-1,by omega⟩
 have cw:=PWay_x (n:=m) hp c cx hc (by omega)
 obtain⟨z,hz⟩:∃z,z=ofN p c k:=⟨_,rfl⟩
 rw[<-hz]
 unfold ofN at hz
 generalize wayF (milN p) c 0=w at*
 obtain⟨w1,w2⟩:=w
 dsimp only at*
 have cl:=PLevel_x (n:=m) w1 k (by omega)
 have:WO (dcall E (m+1) 67 [.agg p.enc,.sl 1 (c.map Cnd.encT) cx,.int .i64 k] []) λr T=>r=.tup [.int .i64 z.1,.int .i64 z.2]:=by
  simp only[Plc.enc]at cw ⊢
  refine wo_dcall Tryz.func67 rfl (by decide) rfl 24 rfl (λa hal ha=>?_)
  have h0:a[0]?=some _:=ha 0 (by simp)
  have h1:a[1]?=some _:=ha 1 (by simp)
  have h2:a[2]?=some _:=ha 2 (by simp)
  clear ha
  by_cases c2:w2=0
  ·rw[if_pos c2]at hz
   rw[<-hz]at cl
   simp only[push_cast,hal,h0,h1,h2,cw,cl,c2,Tryz.f67,↓WX,simprocAttr,WY]
  ·rw[if_neg c2]at hz
   subst hz
   simp only[push_cast,hal,h0,h1,cw,c2,Tryz.f67,↓WX,simprocAttr,WY]
 obtain⟨_,T,hr,rfl⟩:=this
 exact λst S=>callD_pure rfl (by simp only[pureL_cons,pureL_nil,Plc_pure,D.pure,Cnd.encT_pure,Yj]) hr rfl
theorem Pway_x {p:Plc} (hp:PlG p) {t:Trf} (ht:TrG t) (f:Far) (c:List ByteArray) (cx:Bool) (hc:c.length<=1048577) (hn:50000003<=n):∀st S,callD E (dcall E n) st S 65 [.agg p.enc,.agg t.enc,.agg f.enc,.sl 1 (c.map Cnd.encT) cx]=some (.int .i64 (wyN p t f c),S):=by
 obtain⟨m,rfl⟩:∃m,n=m+1:=⟨n-1,by omega⟩
 have hpp:pureL [.agg p.enc,.agg t.enc,.agg f.enc,.sl 1 (c.map Cnd.encT) cx]=true:=by simp only[pureL_cons,pureL_nil,Plc_pure,Trf_pure,Far_pure,D.pure,Cnd.encT_pure,Yj]
 have cr:=PRouting_x (n:=m) (t.fares.map Far.enc) (t.rules.map Rul.enc) (t.taxes.map Tx.enc) t.fx t.rx t.tx t.rous t.ox (Fars_pure _) (Ruls_pure _) (Txs_pure _) ht.ol (by omega) f.rou
 have ca:=PRAllows_x (n:=m) (rouT t f.rou) (λr hr=>ht.lk r (List.mem_of_find?_eq_some hr)) c cx hc (by omega)
 obtain⟨z,hz⟩:∃z,z=wyN p t f c:=⟨_,rfl⟩
 rw[<-hz]
 unfold wyN at hz
 have co:=POf_x (n:=m) hp c cx hc (milF (rouT t f.rou)) (by omega)
 rw[show (t.rous.find? λr=>decide (r.num=f.rou))=rouT t f.rou from rfl]at cr
 generalize (rouT t f.rou).isSome=bs at*
 obtain⟨c0,c1,hrd,n0,n1⟩:=rou_litM (rouT t f.rou)
 rw[hrd]at cr ca
 generalize ralF (rouT t f.rou) c=ra at*
 generalize milF (rouT t f.rou)=mf at*
 generalize ofN p c mf=om at*
 obtain⟨o1,o2⟩:=om
 simp only[D.one]at n0 n1
 simp only[Plc.enc,Trf.enc,Far.enc]at hpp cr ca co ⊢
 dsimp only at co hz
 have:WO (dcall E (m+1) 65 [.agg [.sl 5 (p.aps.map Apt.enc) p.apsx,.sl 3 (p.dts.map Dst.enc) p.dtsx],.agg [.sl 9 (t.fares.map Far.enc) t.fx,.sl 15 (t.rules.map Rul.enc) t.rx,.sl 3 (t.rous.map Rou.enc) t.ox,.sl 7 (t.taxes.map Tx.enc) t.tx],.agg [.str f.car,.str f.frm,.str f.dst,.str f.bas,.str f.cls,.bool f.rnd,.int .i64 f.amt,.int .i64 f.rul,.int .i64 f.rou],.sl 1 (c.map Cnd.encT) cx] []) λr T=>r=.int .i64 z:=by
  clear hpp hrd
  refine wo_dcall Tryz.func65 rfl (by decide) rfl 39 rfl (λa hal ha=>?_)
  have h0:a[0]?=some _:=ha 0 (by simp)
  have h1:a[1]?=some _:=ha 1 (by simp)
  have h2:a[2]?=some _:=ha 2 (by simp)
  have h3:a[3]?=some _:=ha 3 (by simp)
  clear ha
  by_cases c2:f.rou=0
  ·rw[if_pos c2]at hz
   subst hz
   simp only[push_cast,hal,h0,h1,h2,c2,Tryz.f65,↓WX,simprocAttr,WY]
  rw[if_neg c2]at hz
  cases ra
  ·have hz:z=21:=hz
   subst hz
   simp only[push_cast,hal,h0,h1,h2,h3,c2,cr,ca,n0,n1,Tryz.f65,↓WX,simprocAttr,WY]
  rw[if_pos rfl]at hz
  by_cases c3:mf<=0
  ·rw[if_pos c3]at hz
   subst hz
   simp only[push_cast,hal,h0,h1,h2,h3,c2,c3,cr,ca,n0,n1,Tryz.f65,↓WX,simprocAttr,WY]
  ·rw[if_neg c3]at hz
   subst hz
   simp only[push_cast,hal,h0,h1,h2,h3,c2,c3,cr,ca,co,n0,n1,Tryz.f65,↓WX,simprocAttr,WY]
 obtain⟨_,T,hr,rfl⟩:=this
 exact λst S=>callD_pure rfl hpp hr rfl
end
def farsF (W:Nat->Nat->Int->Int) (A:Nat->Nat->Int->Int×Int) (nf i k:Nat):List (Int×Int):=
 (List.range nf).filterMap λ(f:Nat)=>if W i k (f:Int)=0/\(A i k (f:Int)).2=0 then some ((f:Int),(A i k (f:Int)).1) else none
def optF (W:Nat->Nat->Int->Int) (A:Nat->Nat->Int->Int×Int) (nf n i:Nat):List Prt:=
 (List.range' (i+1) (n-i)).flatMap λ(k:Nat)=>(farsF W A nf i k).map λf=>(⟨(i:Int),(k:Int),f.1,f.2⟩:Prt)
def lstS (L:Nat->Option Int) (o:Option Int) (x:Prt):Option Int:=
 match L x.to.toNat with
 |none=>o
 |some r=>match o with
  |none=>some (x.am+r)
  |some b=>if x.am+r<b then some (x.am+r) else some b
def lstF (opts:Nat->List Prt) (n:Nat):Nat->Nat->Option Int
 |0,i=>if i=n then some 0 else none
 |k+1,i=>if i=n then some 0 else (opts i).foldl (lstS (lstF opts n k)) none
def prcF (pct:Int->Int->Int×Int) (p:Plc) (t:Trf) (w:List Wnt) (s:ByteArray) (l:List Prt):Option Quo:=
 if (pairsF t l).2=0 then match sumsF pct p t w s l with
  |none=>none
  |some z=>some (wantF z (pairsF t l).1 l)
 else none
def srcF (W:Nat->Nat->Int->Int) (A:Nat->Nat->Int->Int×Int) (pct:Int->Int->Int×Int) (p:Plc) (t:Trf) (w:List Wnt) (s:ByteArray):Srch where
 n:=w.length
 opts:=optF W A t.fares.length w.length
 least:=λi=>lstF (optF W A t.fares.length w.length) w.length (w.length-i) i
 mix:=λl=>decide (mixedF t l=0)
 chk:=λl=>decide (checkF p t w l=0)
 prc:=λl=>if l.all (λx=>decide (0<=x.am))=true then prcF pct p t w s l else none
theorem farsF_mem {W:Nat->Nat->Int->Int} {A:Nat->Nat->Int->Int×Int} {nf i k:Nat} {f:Int×Int} (h:f∈farsF W A nf i k):0<=f.1/\f.1<nf/\W i k f.1=0/\A i k f.1=(f.2,0):=by
 obtain⟨g,hg,e⟩:=List.mem_filterMap.1 h
 split at e
 ·rename_i c
  obtain rfl:=Yi e
  have:=List.mem_range.1 hg
  exact⟨by show (0:Int)<=g;omega,by show (g:Int)<nf;omega,c.1,by rw[<-c.2]⟩
 ·cases e
theorem optF_mem {W:Nat->Nat->Int->Int} {A:Nat->Nat->Int->Int×Int} {nf n i:Nat} {x:Prt} (h:x∈optF W A nf n i):x.fr=i/\(i:Int)<x.to/\x.to<=n/\0<=x.fa/\x.fa<nf/\W i x.to.toNat x.fa=0/\A i x.to.toNat x.fa=(x.am,0):=by
 obtain⟨k,hk,hx⟩:=List.mem_flatMap.1 h
 obtain⟨f,hf,rfl⟩:=Zy.1 hx
 obtain⟨f1,f2,f3,f4⟩:=farsF_mem hf
 have:=List.mem_range'_1.1 hk
 have ht:((k:Int)).toNat=k:=Int.toNat_natCast k
 refine⟨rfl,?_,?_,f1,f2,?_,?_⟩
 ·show (i:Int)<k;omega
 ·show (k:Int)<=n;omega
 ·show W i ((k:Int)).toNat f.1=0
  rw[ht];exact f3
 ·show A i ((k:Int)).toNat f.1=(f.2,0)
  rw[ht];exact f4
theorem pw_flat {α β:Type} {R:β->β->Prop} {f:α->List β}:∀ {l:List α},(∀a∈l,(f a).Pairwise R)->l.Pairwise (λa b=>∀x∈f a,∀y∈f b,R x y)->(l.flatMap f).Pairwise R
 | [],_,_=>List.Pairwise.nil
 |a::l,h,g=>by
  rw[List.flatMap_cons,List.pairwise_append]
  obtain⟨g1,g2⟩:=List.pairwise_cons.1 g
  refine⟨h a (Yx ..),pw_flat (λb hb=>h b (Yv _ hb)) g2,λx hx y hy=>?_⟩
  obtain⟨b,hb,hy⟩:=List.mem_flatMap.1 hy
  exact g1 b hb x hx y hy
theorem farsF_ord {W:Nat->Nat->Int->Int} {A:Nat->Nat->Int->Int×Int} {nf i k:Nat}:(farsF W A nf i k).Pairwise λf g=>f.1<g.1:=by
 unfold farsF
 rw[List.pairwise_filterMap]
 refine List.pairwise_lt_range.imp ?_
 intro a b hab x hx y hy
 split at hx
 ·obtain rfl:=Yi hx
  split at hy
  ·obtain rfl:=Yi hy
   show (a:Int)<b
   omega
  ·cases hy
 ·cases hx
theorem optF_ord {W:Nat->Nat->Int->Int} {A:Nat->Nat->Int->Int×Int} {nf n i:Nat}:(optF W A nf n i).Pairwise λx y=>x.to<y.to∨(x.to=y.to/\x.fa<y.fa):=by
 unfold optF
 refine pw_flat (λk _=>?_) ?_
 ·rw[List.pairwise_map]
  exact farsF_ord.imp λh=>.inr ⟨rfl,h⟩
 ·refine List.Pairwise.imp ?_ (List.pairwise_lt_range' ..)
  intro a b hab x hx y hy
  obtain⟨f,-,rfl⟩:=Zy.1 hx
  obtain⟨g,-,rfl⟩:=Zy.1 hy
  exact .inl (by show (a:Int)<b;omega)
theorem lstS_fold {L:Nat->Option Int}:∀(xs:List Prt) (o:Option Int),
  (xs.foldl (lstS L) o=none->o=none/\∀x∈xs,L x.to.toNat=none)/\
  ∀r,xs.foldl (lstS L) o=some r->(o=some r∨∃x∈xs,∃v,L x.to.toNat=some v/\r=x.am+v)/\(∀b,o=some b->r<=b)/\∀x∈xs,∀v,L x.to.toNat=some v->r<=x.am+v
 | [],o=>⟨λh=>⟨h,λx hx=>by cases hx⟩,λr hr=>⟨.inl hr,λb hb=>by rw[List.foldl_nil,hb]at hr;obtain rfl:=Yi hr;exact Int.le_refl _,λx hx=>by cases hx⟩⟩
 |x::xs,o=>by
  rw[List.foldl_cons]
  obtain⟨i1,i2⟩:=lstS_fold xs (lstS L o x)
  have key:(lstS L o x=o/\∀v,L x.to.toNat=some v->∃b,o=some b/\b<=x.am+v)∨∃v,L x.to.toNat=some v/\lstS L o x=some (x.am+v)/\∀b,o=some b->x.am+v<=b:=by
   unfold lstS
   cases hv:L x.to.toNat with
   |none=>exact .inl ⟨rfl,λv h=>by cases h⟩
   |some v=>
    cases o with
    |none=>exact .inr ⟨v,rfl,rfl,λb h=>by cases h⟩
    |some b=>
     dsimp only
     by_cases c:x.am+v<b
     ·rw[if_pos c]
      exact .inr ⟨v,rfl,rfl,λb' h=>by obtain rfl:=Yi h;omega⟩
     ·rw[if_neg c]
      exact .inl ⟨rfl,λv' h=>⟨b,rfl,by obtain rfl:=Yi h;omega⟩⟩
  refine⟨λh=>?_,λr hr=>?_⟩
  ·obtain⟨g1,g2⟩:=i1 h
   rcases key with ⟨e,hk⟩ | ⟨v,-,e,-⟩
   ·rw[e]at g1
    refine⟨g1,λy hy=>?_⟩
    rcases List.mem_cons.1 hy with rfl |hy
    ·cases hv:L y.to.toNat with
     |none=>rfl
     |some v=>obtain⟨b,hb,-⟩:=hk v hv;rw[g1]at hb;cases hb
    ·exact g2 y hy
   ·rw[e]at g1;cases g1
  ·obtain⟨g1,g2,g3⟩:=i2 r hr
   rcases key with ⟨e,hk⟩ | ⟨v,hv,e,hb⟩
   ·rw[e]at g1 g2
    refine⟨g1.imp id λ⟨y,hy,v,h1,h2⟩=>⟨y,Yv _ hy,v,h1,h2⟩,g2,λy hy v hv=>?_⟩
    rcases List.mem_cons.1 hy with rfl |hy
    ·obtain⟨b,hb,hle⟩:=hk v hv
     have:=g2 b hb
     omega
    ·exact g3 y hy v hv
   ·rw[e]at g1 g2
    have hr2:=g2 _ rfl
    refine⟨.inr ?_,λb h=>by have:=hb b h;omega,λy hy v' hv'=>?_⟩
    ·rcases g1 with g1 | ⟨y,hy,v',h1,h2⟩
     ·obtain rfl:=Yi g1
      exact⟨x,Yx ..,v,hv,rfl⟩
     ·exact⟨y,Yv _ hy,v',h1,h2⟩
    ·rcases List.mem_cons.1 hy with rfl |hy
     ·rw[hv]at hv'
      obtain rfl:=Yi hv'
      exact hr2
     ·exact g3 y hy v' hv'
theorem lstF_law {s:Srch} (hto:∀i,∀x∈s.opts i,(i:Int)<x.to/\x.to<=s.n):∀(m i:Nat),i<=s.n->s.n<=i+m->
  (lstF s.opts s.n m i=none->∀k,s.cands k i=[])/\∀r,lstF s.opts s.n m i=some r->∀k,∀l∈s.cands k i,r<=amP l:=by
 intro m
 have base:∀k,s.cands k s.n=[[]]:=λk=>by cases k <;> rw[Srch.cands,if_pos rfl]
 induction m with
 |zero=>
  intro i h1 h2
  have hi:i=s.n:=by omega
  subst hi
  rw[lstF,if_pos rfl]
  refine⟨λh=>(by cases h),λr hr k l hl=>?_⟩
  obtain rfl:=Yi hr
  rw[base k]at hl
  obtain rfl:=List.mem_singleton.1 hl
  exact Int.le_refl _
 |succ m ih=>
  intro i h1 h2
  by_cases hi:i=s.n
  ·subst hi
   rw[lstF,if_pos rfl]
   refine⟨λh=>(by cases h),λr hr k l hl=>?_⟩
   obtain rfl:=Yi hr
   rw[base k]at hl
   obtain rfl:=List.mem_singleton.1 hl
   exact Int.le_refl _
  ·rw[lstF,if_neg hi]
   obtain⟨f1,f2⟩:=lstS_fold (L:=lstF s.opts s.n m) (s.opts i) none
   refine⟨λh k=>?_,λr hr k l hl=>?_⟩
   ·cases k with
    |zero=>rw[Srch.cands,if_neg hi]
    |succ k=>
     rw[Srch.cands,if_neg hi,List.flatMap_eq_nil_iff]
     intro x hx
     obtain⟨t1,t2⟩:=hto i x hx
     rw[(ih x.to.toNat (by omega) (by omega)).1 ((f1 h).2 x hx) k]
     rfl
   ·cases k with
    |zero=>rw[Srch.cands,if_neg hi]at hl;cases hl
    |succ k=>
     rw[Srch.cands,if_neg hi]at hl
     obtain⟨x,hx,hl⟩:=List.mem_flatMap.1 hl
     obtain⟨l',hl',rfl⟩:=Zy.1 hl
     obtain⟨t1,t2⟩:=hto i x hx
     obtain⟨i1,i2⟩:=ih x.to.toNat (by omega) (by omega)
     cases hv:lstF s.opts s.n m x.to.toNat with
     |none=>rw[i1 hv k]at hl';cases hl'
     |some v=>
      have a:=i2 v hv k l' hl'
      have b:=(f2 r hr).2.2 x hx v hv
      rw[amP]
      omega
theorem lstF_bound {opts:Nat->List Prt} {n:Nat} (ham:∀i,∀x∈opts i,0<=x.am/\x.am<=1099511627776):∀(m i:Nat) (r:Int),lstF opts n m i=some r->0<=r/\r<=m*1099511627776:=by
 intro m
 induction m with
 |zero=>
  intro i r h
  rw[lstF]at h
  split at h
  ·obtain rfl:=Yi h
   constructor <;> omega
  ·cases h
 |succ m ih=>
  intro i r h
  rw[lstF]at h
  split at h
  ·obtain rfl:=Yi h;omega
  ·rcases ((lstS_fold (opts i) none).2 r h).1 with h | ⟨x,hx,v,hv,rfl⟩
   ·cases h
   ·have:=ih _ _ hv
    have:=ham i x hx
    omega
structure PctOk (pct:Int->Int->Int×Int):Prop where
 pos:∀f a,0<=f->f<=1099511627776->0<=a->a<=1099511627776->(pct f a).2=0->0<=(pct f a).1
 mono:∀f g a,0<=f->f<=g->g<=1099511627776->0<=a->a<=1099511627776->(pct f a).2=0->(pct g a).2=0->(pct f a).1<=(pct g a).1
def smC:List (ByteArray×Int)->Int
 | []=>0
 |x::xs=>x.2+smC xs
theorem smC_app:∀(a b:List (ByteArray×Int)),smC (a++b)=smC a+smC b
 | [],b=>by simp[smC]
 |x::xs,b=>by rw[Ze,smC,smC,smC_app xs b];omega
def axS (pct:Int->Int->Int×Int) (p:Plc) (w:List Wnt) (s:ByteArray) (f:Int):List Tx->Int
 | []=>0
 |x::xs=>(axF pct (timF p x w s) x f).1+axS pct p w s f xs
theorem taxF_sum {pct:Int->Int->Int×Int} {p:Plc} {w:List Wnt} {s:ByteArray} {f:Int}:∀(l:List Tx) (acc:List (ByteArray×Int)),(taxF pct p w s f l acc).2=0->smC (taxF pct p w s f l acc).1=smC acc+axS pct p w s f l/\∀x∈l,(axF pct (timF p x w s) x f).2=0
 | [],acc,_=>⟨by rw[taxF,axS];dsimp only;omega,λx hx=>by cases hx⟩
 |x::xs,acc,h=>by
  rw[taxF]at h ⊢
  by_cases c:(axF pct (timF p x w s) x f).2=0
  ·rw[if_pos c]at h ⊢
   by_cases c2:1099511627776<(axF pct (timF p x w s) x f).1
   ·rw[if_pos c2]at h
    cases h
   ·rw[if_neg c2]at h ⊢
    by_cases c3:(axF pct (timF p x w s) x f).1=0
    ·rw[if_pos c3]at h ⊢
     obtain⟨e1,e2⟩:=taxF_sum xs acc h
     refine⟨by rw[e1,axS,c3];omega,λy hy=>?_⟩
     rcases List.mem_cons.1 hy with rfl |hy
     ·exact c
     ·exact e2 y hy
    ·rw[if_neg c3]at h ⊢
     obtain⟨e1,e2⟩:=taxF_sum xs _ h
     refine⟨by rw[e1,axS,smC_app,smC,smC];omega,λy hy=>?_⟩
     rcases List.mem_cons.1 hy with rfl |hy
     ·exact c
     ·exact e2 y hy
  ·rw[if_neg c]at h
   exact (c h).elim
theorem timF_le (p:Plc) (x:Tx) (l:List Wnt) (s:ByteArray):timF p x l s<=l.length:=by
 have:=sumD_le p x none l
 unfold timF
 repeat' split
 all_goals omega
theorem axF_pos {pct:Int->Int->Int×Int} (hp:PctOk pct) {p:Plc} {x:Tx} {w:List Wnt} {s:ByteArray} {f:Int} (hw:w.length<=900) (hf:0<=f/\f<=1099511627776) (hx:0<=x.amount/\x.amount<=1099511627776) (he:(axF pct (timF p x w s) x f).2=0):0<=(axF pct (timF p x w s) x f).1:=by
 have ht:=timF_le p x w s
 unfold axF at he ⊢
 split
 ·rename_i c
  rw[if_pos c]at he
  exact hp.pos f x.amount hf.1 hf.2 hx.1 hx.2 he
 ·have h1:((timF p x w s:Nat):Int)*x.amount<=900*1099511627776:=Int.mul_le_mul (by omega) hx.2 hx.1 (by omega)
  have h2:0<=((timF p x w s:Nat):Int)*x.amount:=Int.mul_nonneg (by omega) hx.1
  show 0<=IntKind.i64.wrap _
  rw[wrap_ok (by omega) (by omega)]
  exact h2
theorem axS_mono {pct:Int->Int->Int×Int} (hp:PctOk pct) {p:Plc} {w:List Wnt} {s:ByteArray} (hw:w.length<=900) {f g:Int} (h0:0<=f) (hfg:f<=g) (hg:g<=1099511627776):∀(l:List Tx),(∀x∈l,0<=x.amount/\x.amount<=1099511627776)->(∀x∈l,(axF pct (timF p x w s) x f).2=0)->(∀x∈l,(axF pct (timF p x w s) x g).2=0)->0<=axS pct p w s f l/\axS pct p w s f l<=axS pct p w s g l
 | [],_,_,_=>⟨Int.le_refl _,Int.le_refl _⟩
 |x::xs,h,e1,e2=>by
  obtain⟨i1,i2⟩:=axS_mono hp hw h0 hfg hg xs (λy hy=>h y (Yv _ hy)) (λy hy=>e1 y (Yv _ hy)) (λy hy=>e2 y (Yv _ hy))
  have hx:=h x (Yx ..)
  have a1:=e1 x (Yx ..)
  have a2:=e2 x (Yx ..)
  have p1:=axF_pos hp hw ⟨h0,by omega⟩ hx a1
  have p2:(axF pct (timF p x w s) x f).1<=(axF pct (timF p x w s) x g).1:=by
   unfold axF at a1 a2 ⊢
   by_cases c:x.kind=4/\timF p x w s=1
   ·rw[if_pos c]at a1 a2 ⊢
    rw[if_pos c]
    exact hp.mono f g x.amount h0 hfg hg hx.1 hx.2 a1 a2
   ·rw[if_neg c,if_neg c]
    exact Int.le_refl _
  rw[axS,axS]
  omega
def sm:List Int->Int
 | []=>0
 |x::xs=>x+sm xs
theorem famF_sum:∀(l:List Int) (f u:Int),(∀x∈l,0<=x)->0<=f->f<=1099511627776->famF l f=some u->u=f+sm l/\u<=1099511627776
 | [],f,u,_,_,h,e=>by
  rw[famF]at e
  obtain rfl:=Yi e
  exact⟨by rw[sm];omega,h⟩
 |x::xs,f,u,hx,h0,h1,e=>by
  have x0:=hx x (Yx ..)
  rw[famF]at e
  split at e
  ·cases e
  ·rename_i c
   have hw:IntKind.i64.wrap (f+x)=f+x:=wrap_ok (by omega) (by omega)
   rw[hw]at e c
   obtain⟨e1,e2⟩:=famF_sum xs (f+x) u (λy hy=>hx y (Yv _ hy)) (by omega) (by omega) e
   exact⟨by rw[e1,sm];omega,e2⟩
theorem sm_amP:∀l:List Prt,sm (l.map Prt.am)=amP l
 | []=>rfl
 |x::xs=>by rw[Zh,sm,amP,sm_amP xs]
theorem sm_smC:∀l:List (ByteArray×Int),sm (l.map (·.2))=smC l
 | []=>rfl
 |x::xs=>by rw[Zh,sm,smC,sm_smC xs]
theorem taxF_pos {pct:Int->Int->Int×Int} (hp:PctOk pct) {p:Plc} {w:List Wnt} {s:ByteArray} (hw:w.length<=900) {f:Int} (hf:0<=f/\f<=1099511627776):∀(l:List Tx) (acc:List (ByteArray×Int)),(∀x∈l,0<=x.amount/\x.amount<=1099511627776)->(∀c∈acc,0<=c.2)->∀c∈(taxF pct p w s f l acc).1,0<=c.2
 | [],acc,_,ha,c,hc=>ha c hc
 |x::xs,acc,h,ha,c,hc=>by
  rw[taxF]at hc
  split at hc
  ·rename_i e
   split at hc
   ·cases hc
   ·split at hc
    ·exact taxF_pos hp hw hf xs acc (λy hy=>h y (Yv _ hy)) ha c hc
    ·refine taxF_pos hp hw hf xs _ (λy hy=>h y (Yv _ hy)) (λd hd=>?_) c hc
     rcases List.mem_append.1 hd with hd |hd
     ·exact ha d hd
     ·obtain rfl:=List.mem_singleton.1 hd
      exact axF_pos hp hw hf (h x (Yx ..)) e
  ·cases hc
theorem sumsF_law {pct:Int->Int->Int×Int} (hp:PctOk pct) {p:Plc} {t:Trf} {w:List Wnt} {s:ByteArray} (hw:w.length<=900) (ht:∀x∈t.taxes,0<=x.amount/\x.amount<=1099511627776) {l:List Prt} (hl:∀x∈l,0<=x.am) {z:Int×List (ByteArray×Int)×Int} (h:sumsF pct p t w s l=some z):
  z.1=amP l/\z.1<=1099511627776/\z.2.2=z.1+axS pct p w s z.1 t.taxes/\∀x∈t.taxes,(axF pct (timF p x w s) x z.1).2=0:=by
 unfold sumsF at h
 split at h
 ·cases h
 ·rename_i f hf
  obtain⟨f1,f2⟩:=famF_sum _ 0 f (λx hx=>by obtain⟨y,hy,rfl⟩:=Zy.1 hx;exact hl y hy) (by omega) (by omega) hf
  rw[sm_amP]at f1
  have hf0:0<=f:=by
   have:∀l:List Prt,(∀x∈l,0<=x.am)->0<=amP l:=λl=>by
    induction l with
    |nil=>intro _;exact Int.le_refl _
    |cons x xs ih=>
     intro h
     have:=ih λy hy=>h y (Yv _ hy)
     have:=h x (Yx ..)
     rw[amP];omega
   have:=this l hl
   omega
  split at h
  ·rename_i he
   obtain⟨s1,s2⟩:=taxF_sum t.taxes [] he
   split at h
   ·cases h
   ·rename_i u hu
    obtain rfl:=Yi h
    obtain⟨u1,u2⟩:=famF_sum _ f u (λx hx=>by obtain⟨y,hy,rfl⟩:=Zy.1 hx;exact taxF_pos hp hw ⟨hf0,f2⟩ t.taxes [] ht (λc hc=>by cases hc) y hy) hf0 f2 hu
    rw[sm_smC,s1,smC]at u1
    dsimp only
    exact⟨by omega,f2,by omega,s2⟩
  ·cases h
theorem knoF_all {t:Trf} {l m:List Prt} (h:(l++m).all (knoF t)=true):l.all (knoF t)=true:=by
 rw[List.all_append,Ye]at h
 exact h.1
theorem mxF_pre {α:Type} {f:α->α->Bool}:∀ {l m ys:List α},mxF f ys (l++m)=true->mxF f ys l=true
 | [],_,_,_=>by unfold mxF;rfl
 |x::xs,m,ys,h=>by
  rw[Ze]at h
  unfold mxF at h ⊢
  rw[Ye]at h ⊢
  exact⟨h.1,mxF_pre h.2⟩
theorem mixedF_pre {t:Trf} {l m:List Prt} (h:mixedF t (l++m)=0):mixedF t l=0:=by
 unfold mixedF at h ⊢
 split at h
 ·rename_i c
  split at h
  ·rename_i c2
   rw[if_pos (knoF_all c),if_pos (mxF_pre c2)]
  ·cases h
 ·cases h
def AmtOk (A:Nat->Nat->Int->Int×Int) (nf n:Nat):Prop:=∀(i k:Nat) (f:Int),i<k->k<=n->0<=f->f<nf->(A i k f).2=0->0<=(A i k f).1/\(A i k f).1<=1099511627776
theorem srcF_ok {W:Nat->Nat->Int->Int} {A:Nat->Nat->Int->Int×Int} {pct:Int->Int->Int×Int} {p:Plc} {t:Trf} {w:List Wnt} {s:ByteArray} (hw:w.length<=900) (hp:PctOk pct) (hA:AmtOk A t.fares.length w.length) (ht:∀x∈t.taxes,0<=x.amount/\x.amount<=1099511627776):(srcF W A pct p t w s).Ok:=by
 have hto:∀i,∀x∈(srcF W A pct p t w s).opts i,(i:Int)<x.to/\x.to<=(srcF W A pct p t w s).n:=λi x hx=>⟨(optF_mem hx).2.1,(optF_mem hx).2.2.1⟩
 have hpr:∀l q,(srcF W A pct p t w s).prc l=some q->(∀x∈l,0<=x.am)/\∃z,sumsF pct p t w s l=some z/\q=wantF z (pairsF t l).1 l:=λl q h=>by
  have h:(if l.all (λx=>decide (0<=x.am))=true then prcF pct p t w s l else none)=some q:=h
  split at h
  ·rename_i c
   refine⟨λx hx=>Zk (List.all_eq_true.1 c x hx),?_⟩
   unfold prcF at h
   split at h
   ·split at h
    ·cases h
    ·rename_i z hz
     exact⟨z,hz,(Yi h).symm⟩
   ·cases h
  ·cases h
 have two:∀l m u v,(srcF W A pct p t w s).prc l=some u->(srcF W A pct p t w s).prc m=some v->u.fare<=v.fare->u.total-u.fare<=v.total-v.fare:=λl m u v h g e=>by
  obtain⟨hl,z,hz,rfl⟩:=hpr l u h
  obtain⟨hm,y,hy,rfl⟩:=hpr m v g
  obtain⟨z1,z2,z3,z4⟩:=sumsF_law hp hw ht hl hz
  obtain⟨y1,y2,y3,y4⟩:=sumsF_law hp hw ht hm hy
  have e:z.1<=y.1:=e
  have z0:0<=z.1:=by
   have:∀l:List Prt,(∀x∈l,0<=x.am)->0<=amP l:=λl=>by
    induction l with
    |nil=>intro _;exact Int.le_refl _
    |cons x xs ih=>
     intro h
     have:=ih λy hy=>h y (Yv _ hy)
     have:=h x (Yx ..)
     rw[amP];omega
   have:=this l hl
   omega
  have:=(axS_mono hp (p:=p) (s:=s) hw z0 e y2 t.taxes ht z4 y4).2
  show z.2.2-z.1<=y.2.2-y.1
  omega
 exact {
  to:=hto
  am:=λi x hx=>by
   obtain⟨h1,h2,h3,h4,h5,h6,h7⟩:=optF_mem hx
   have:=hA i x.to.toNat x.fa (by omega) (by omega) h4 h5 (by rw[h7])
   rw[h7]at this
   exact this.1
  ord:=λi=>optF_ord
  no:=λi k hi h=>(lstF_law hto (w.length-i) i hi (by show w.length<=i+(w.length-i);omega)).1 h k
  lo:=λi k r hi h=>(lstF_law hto (w.length-i) i hi (by show w.length<=i+(w.length-i);omega)).2 r h k
  mx:=λl m h=>by
   have h:decide (checkF p t w (l++m)=0)=true:=h
   have h:=Zk h
   refine Yn (mixedF_pre (m:=m) ?_)
   unfold checkF at h
   split at h
   ·split at h
    ·split at h
     ·assumption
     ·rename_i c
      exact (c h).elim
    ·rename_i c
     exact (c h).elim
   ·cases h
  pr:=λl q h=>by
   obtain⟨hl,z,hz,rfl⟩:=hpr l q h
   obtain⟨z1,z2,-,-⟩:=sumsF_law hp hw ht hl hz
   exact⟨rfl,z1,z2⟩
  mono:=λl m u v h g e=>by
   have:=two l m u v h g (by omega)
   omega
  same:=λl m u v h g e=>by
   have a:=two l m u v h g (by omega)
   have b:=two m l v u g h (by omega)
   omega }
end Go.Proofs.YtaklebjoenophaaGreat.Dm
