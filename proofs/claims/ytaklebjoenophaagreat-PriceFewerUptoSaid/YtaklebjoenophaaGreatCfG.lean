/-
  Lists of plain data and how much they hold; what the frames of rows without listed variables import.
  How often a tax is due, and the taxes of a journey: the reference, exactly (but for the percentage, which is a function).
  The sums of a price: the reference, exactly (but for the percentage, which is a function).
  The program's cities of a way: a list.
  The program's stops and ends of a way: exactly.
  Whether a way has another class than its fare: the program's closure and what calls it.
-/
import Derived.Test.YtaklebjoenophaaGreatZg
import Derived.Test.YtaklebjoenophaaGreatRows
import Derived.ProofKit
import Derived.OpenShut
import Derived.ShutString
import Derived.Stop.Joined
import Derived.JoinedCond
import Derived.Test.YtaklebjoenophaaGreatPrA
set_option maxHeartbeats 64000000
set_option maxRecDepth 100000
set_option linter.unusedSimpArgs false
set_option linter.unusedVariables false
namespace Go.Proofs.YtaklebjoenophaaGreat
open Go Go.ChangeShapes Go.WideShapes Go.ChangeAt Go.RowKit Dm
theorem own:ownKnob Tryz.prog.godebug=none:=by kernel_rfl
theorem list_relB {α:Type} {R:List D->α->Prop}:∀ {es:List (List D)},(∀(j:Nat) (c:List D),es[j]?=some c->∃r:α,R c r)->∃rs:List α,rs.length=es.length/\∀(j:Nat) (c:List D) (r:α),es[j]?=some c->rs[j]?=some r->R c r
 | [],_=>⟨[],rfl,λj c r h=>by simp at h⟩
 |e::es,h=>by
  obtain⟨r,hr⟩:=h 0 e rfl
  obtain⟨rs,h1,h2⟩:=list_relB (es:=es) λj c hc=>h (j+1) c (by simpa using hc)
  refine⟨r::rs,by simp[h1],λj c r' hc hr'=>?_⟩
  cases j with
  |zero=>
   have e1:e=c:=by simpa using hc
   have e2:r=r':=by simpa using hr'
   rw[<-e1,<-e2];exact hr
  |succ j=>exact h2 j c r' (by simpa using hc) (by simpa using hr')
theorem bulk_map {α:Type} {enc:α->List D}:∀ {es:List (List D)} {rs:List α},rs.length=es.length->(∀(j:Nat) (c:List D) (r:α),es[j]?=some c->rs[j]?=some r->bulkL (enc r)<=bulkL c)->bulkLL (rs.map enc)<=bulkLL es
 | [],[],_,_=>Yt _
 |e::es,r::rs,hl,h=>by
  have h0:=h 0 e r rfl rfl
  have:=bulk_map (es:=es) (rs:=rs) (by simpa using hl) (λj c r h1 h2=>h (j+1) c r (by simpa using h1) (by simpa using h2))
  simp only[Zh,bulkLL];omega
 | [],_::_,hl,_=>by simp at hl
 |_::_,[],hl,_=>by simp at hl
theorem slices_relB {α:Type} {enc:α->List D} {Q:α->Prop} {t e:TypeId} {n:Nat} (ht:Tryz.prog.underlying t=some (.slice e)) (hn:Tryz.prog.cellsOf e=n) (hof:∀c,TC Tryz.prog e c->∃r:α,CellR c (enc r)/\Q r/\bulkL (enc r)<=bulkL c) {d:D} (h:TC Tryz.prog t [d]):
  ∃(l:List α) (x:Bool),(∀r∈l,Q r)/\(∀W C u,VR W C d u->VR W C (.sl n (l.map enc) x) u)/\bulkLL (l.map enc)+1<=bulkD d:=by
 rcases h.toSlice ht with h | ⟨es,x,h,hle,hes⟩
 ·have:d=.nils:=by simpa using h
  subst this
  exact⟨[],true,(λr h=>by cases h),λW C u hu=>nils_sl hu,Yt _⟩
 ·rw[hn]at h
  have:d=.sl n es x:=by simpa using h
  subst this
  obtain⟨l,hl,hr⟩:=list_relB (R:=λc r=>CellR c (enc r)/\Q r/\bulkL (enc r)<=bulkL c) λj c hc=>hof c (hes j c hc)
  refine⟨l,x,λr hm=>?_,λW C u hu=>VR.sl_rel hu (by rw[Yz];exact hl) λj e e' he he'=>?_,?_⟩
  ·obtain⟨j,hj⟩:=Xd.1 hm
   have hjl:j<es.length:=by rw[<-hl];exact (Ya.1 hj).1
   exact (hr j es[j] r (Yq hjl) hj).2.1
  ·rw[Zm]at he'
   obtain⟨r,hr',rfl⟩:=Yb.1 he'
   exact (hr j e r he hr').1
  ·have:=bulk_map (enc:=enc) hl (λj c r h1 h2=>(hr j c r h1 h2).2.2)
   simp only[bulkD];omega
theorem bulk_mem {c:List D}:∀ {es:List (List D)},c∈es->bulkL c<=bulkLL es
 | [],h=>by cases h
 |e::es,h=>by
  simp only[bulkLL]
  rcases List.mem_cons.1 h with rfl |h
  ·omega
  ·have:=bulk_mem h;omega
theorem bulk_len {m:Nat}:∀ {es:List (List D)},(∀c∈es,m<=bulkL c)->m*es.length<=bulkLL es
 | [],_=>by simp[bulkLL]
 |e::es,h=>by
  have h0:=h e (by simp)
  have:=bulk_len (es:=es) (λc hc=>h c (by simp[hc]))
  simp only[bulkLL,Zd,Nat.mul_add];omega
theorem bcells_gint:Tryz.prog.cellsOf 3=1:=by kernel_rfl
theorem bcells_gstr:Tryz.prog.cellsOf 9=1:=by kernel_rfl
end Go.Proofs.YtaklebjoenophaaGreat
namespace Go.Proofs.YtaklebjoenophaaGreat.Dm
open Go Gw
def axF (pct:Int->Int->Int×Int) (k:Nat) (x:Tx) (fare:Int):Int×Int:=if x.kind=4/\k=1 then pct fare x.amount else (IntKind.i64.wrap (k*x.amount),0)
def taxF (pct:Int->Int->Int×Int) (p:Plc) (w:List Wnt) (s:ByteArray) (fare:Int):List Tx->List (ByteArray×Int)->List (ByteArray×Int)×Int
 | [],acc=>(acc,0)
 |x::xs,acc=>
  if (axF pct (timF p x w s) x fare).2=0 then
   if 1099511627776<(axF pct (timF p x w s) x fare).1 then ([],11)
   else if (axF pct (timF p x w s) x fare).1=0 then taxF pct p w s fare xs acc
   else taxF pct p w s fare xs (acc++[(x.code,(axF pct (timF p x w s) x fare).1)])
  else ([],(axF pct (timF p x w s) x fare).2)
section
variable {n : Nat}
end
def famF:List Int->Int->Option Int
 | [],f=>some f
 |x::xs,f=>if x>1099511627776∨IntKind.i64.wrap (f+x)>1099511627776 then none else famF xs (IntKind.i64.wrap (f+x))
def sumsF (pct:Int->Int->Int×Int) (p:Plc) (t:Trf) (w:List Wnt) (s:ByteArray) (l:List Prt):Option (Int×List (ByteArray×Int)×Int):=
 match famF (l.map Prt.am) 0 with
 |none=>none
 |some f=>if (taxF pct p w s f t.taxes []).2=0 then match famF ((taxF pct p w s f t.taxes []).1.map (·.2)) f with
   |none=>none
   |some u=>some (f,(taxF pct p w s f t.taxes []).1,u)
  else none
theorem taxF_len {pct:Int->Int->Int×Int} {p:Plc} {w:List Wnt} {s:ByteArray} {fare:Int}:∀(l:List Tx) (acc:List (ByteArray×Int)),(taxF pct p w s fare l acc).1.length<=acc.length+l.length
 | [],acc=>Yt _
 |x::xs,acc=>by
  unfold taxF
  rw[Zd]
  split
  ·split
   ·exact Xb _
   ·split
    ·have:=taxF_len (pct:=pct) (p:=p) (w:=w) (s:=s) (fare:=fare) xs acc;omega
    ·have:=taxF_len (pct:=pct) (p:=p) (w:=w) (s:=s) (fare:=fare) xs (acc++[(x.code,(axF pct (timF p x w s) x fare).1)])
     rw[Yd,List.length_singleton]at this
     omega
  ·exact Xb _
section
variable {n : Nat}
end
section
variable {n : Nat}
theorem PCities_d (p:Plc) (hpa:p.aps.length<=1048576) (l:List Wnt) (lx:Bool) (hl:l.length<=1000) (hn:1048590<=n):
  WO (dcall E (n+1) 58 [.agg p.enc,.sl 8 (l.map Wnt.enc) lx] []) λr T=>∃cs:List ByteArray,GL 1 Cnd.encT T r cs/\cs=citF p l:=by
 obtain⟨fc,hfc,hf⟩:∃fc:ByteArray->ByteArray,fc=cityS p/\∀s st S,callD E (dcall E n) st S 117 [.agg p.enc,.str s]=some (.str (fc s),S):=⟨cityS p,rfl,λs st S=>City_c (by omega) (by omega) st S⟩
 simp only[Plc.enc]at hf ⊢
 have ap:∀ {T:List Ob} {d:D} {cs:List ByteArray},GL 1 Cnd.encT T d cs->cs.length<=100000->∀s,∃S',dAppend Tryz.prog T 67 67 d (.sl 1 [[.str s]] true)=some (.os T.length 0 (cs.length+1) false,S')/\GL 1 Cnd.encT S' (.os T.length 0 (cs.length+1) false) (cs++[s])/\S'.length=T.length+1/\(∀k o,(∀n,d=.os k 0 n false->False)->T[k]?=some o->S'[k]?=some o):=λh hc s=>by
  obtain⟨S',a1,a2,a3,a4,-⟩:=app_gl (t:=67) (e:=9) (z:=.str (ByteArray.mk #[])) (n:=0) (by kernel_rfl) (by kernel_rfl) (by kernel_rfl) rfl (Nat.le_of_ble_eq_true (by kernel_rfl)) h hc s
  exact⟨S',a1,a2,a3,a4⟩
 obtain⟨P0,hP0⟩:∃P0:Ob,P0=Ob.row 2 [[.sl 5 (p.aps.map Apt.enc) p.apsx,.sl 3 (p.dts.map Dst.enc) p.dtsx]]:=⟨_,rfl⟩
 refine wo_dcall Tryz.func58 rfl (by decide) rfl 35 rfl (λa hal ha=>?_)
 have h0:a[0]?=some _:=ha 0 (by simp)
 have h1:a[1]?=some _:=ha 1 (by simp)
 clear ha
 simp only[push_cast,hal,h0,h1,↓WX,simprocAttr]
 refine wl_loop (λi a T=>(∃d cs,a[5]?=some d/\GL 1 Cnd.encT T d cs/\(∀n,d=.os 0 0 n false->False)/\cs=citF p (l.take i)/\T[0]?=some P0/\1<=T.length)/\a.length=35/\a[2]?=some (.loc 0 0 0)/\a[8]?=some (.sl 8 (l.map Wnt.enc) lx)/\a[9]?=some (.int .i64 l.length)/\a[10]?=some (.int .i64 i)) l.length ?_ (by omega) ?_
 ·simp only[push_cast,hal,simprocAttr,WY]
  exact⟨_,[],rfl,GL.nil,λn h=>(by cases h),rfl,by rw[hP0]⟩
 rintro i a T hi ⟨⟨d,cs,h5,hg,hd,hc0,hT,hTl⟩,hal,h2,h8,h9,h10⟩
 rcases Yf hi with hlt |rfl
 case inr=>
  simp only[push_cast,hal,h5,h9,h10,Tryz.f58,↓WX,simprocAttr,WY]
  exact⟨cs,hg,by rw[hc0,Zs]⟩
 have hltc:(i:Int)<l.length:=by omega
 obtain⟨x,hx⟩:∃x,l[i]?=some x:=⟨l[i],by simp⟩
 have hti:(l.take (i+1))=l.take i++[x]:=by rw[List.take_add_one,hx];rfl
 have hc1:i≠0->cs.length=i+1/\citF p (l.take (i+1))=cs++[cityS p x.to]:=λe=>by
  have hne:l.take i≠[]:=λh=>by have:=congrArg List.length h;rw[Zn,Xa]at this;omega
  rw[hc0]
  refine⟨?_,by rw[hti,citF_add p x hne]⟩
  rw[citF_len p hne,Zn]
  omega
 have hc2:i=0->cs=[]/\citF p (l.take (i+1))=[cityS p x.fr]++[cityS p x.to]:=λe=>by
  subst e
  refine⟨hc0,?_⟩
  rw[hti]
  rfl
 have hcl:cs.length<=2000:=by
  by_cases e:i=0
  ·rw[(hc2 e).1];exact Xb _
  ·rw[(hc1 e).1];omega
 rw[<-hfc]at hc1 hc2
 refine wc_scut (λa V=>V=T/\a.length=35/\a[2]?=some (.loc 0 0 0)/\a[5]?=some (d)/\a[8]?=some (.sl 8 (l.map Wnt.enc) lx)/\a[9]?=some (.int .i64 l.length)/\a[10]?=some (.int .i64 i)/\a[11]?=some (.bool true)) ?_ ?_
 ·simp only[push_cast,hal,h2,h5,h8,h9,h10,hltc,↓WX,simprocAttr]
 rintro a V ⟨rfl,hal,h2,h5,h8,h9,h10,h11⟩
 refine wc_scut (λa W=>W=V/\a.length=35/\a[2]?=some (.loc 0 0 0)/\a[5]?=some (d)/\a[8]?=some (.sl 8 (l.map Wnt.enc) lx)/\a[9]?=some (.int .i64 l.length)/\a[10]?=some (.int .i64 i)) ?_ ?_
 ·simp only[push_cast,hal,h2,h5,h8,h9,h10,h11,↓WX]
 rintro a W ⟨rfl,hal,h2,h5,h8,h9,h10⟩
 rw[wc_seq,wc_block]
 refine wc_scut (λa V=>(∃kx,a[7]?=some (.loc kx 0 0)/\V[kx]?=some (Ob.row 8 [x.enc])/\GL 1 Cnd.encT V d cs/\(∀n,d=.os kx 0 n false->False)/\V[0]?=some P0/\1<=V.length)/\a.length=35/\a[2]?=some (.loc 0 0 0)/\a[5]?=some (d)/\a[6]?=some (.int .i64 i)/\a[8]?=some (.sl 8 (l.map Wnt.enc) lx)/\a[9]?=some (.int .i64 l.length)/\a[10]?=some (.int .i64 i)) ?_ ?_
 ·simp only[push_cast,hal,h2,h5,h8,h9,h10,hx,get_end,set_end,Wnt.enc,↓WX,simprocAttr]
  refine⟨_,rfl,get_end,hg.keep λk n hk o ho=>get_old ho,λn hk=>?_,get_old hT,by first |omega | (rw[Yd];omega) |simp⟩
  rcases hg with ⟨h,-⟩ | ⟨k,h1,h2⟩
  ·rw[h]at hk;cases hk
  ·rw[h1]at hk
   have:=(D.os.inj hk).1
   have h3:=(Ya.1 h2).1
   omega
 clear hg hT hTl
 rintro a V ⟨⟨kx,h7,gx,hg,hdx,hT,hTl⟩,hal,h2,h5,h6,h8,h9,h10⟩
 simp only[Wnt.enc]at gx
 subst hP0
 refine wc_scut (λa T=>(∃d cs,a[5]?=some d/\GL 1 Cnd.encT T d cs/\(∀n,d=.os 0 0 n false->False)/\(cs.length=i+1/\citF p (l.take (i+1))=cs++[fc x.to])/\T[0]?=some (Ob.row 2 [[.sl 5 (p.aps.map Apt.enc) p.apsx,.sl 3 (p.dts.map Dst.enc) p.dtsx]])/\1<=T.length/\T[kx]?=V[kx]?)/\a.length=35/\a[2]?=some (.loc 0 0 0)/\a[7]?=some (.loc kx 0 0)/\a[8]?=some (.sl 8 (l.map Wnt.enc) lx)/\a[9]?=some (.int .i64 l.length)/\a[10]?=some (.int .i64 i)) ?_ ?_
 ·by_cases e:i=0
  case neg=>
   have d1:decide ((i:Int)=0)=false:=Ym (by omega)
   simp only[push_cast,hal,h2,h5,h6,h7,h8,h9,h10,d1,↓WX,simprocAttr]
   exact⟨_,cs,rfl,hg,hd,hc1 e,hT,hTl⟩
  have d1:decide ((i:Int)=0)=true:=Yn (by omega)
  obtain⟨S',a1,a2,a3,a4⟩:=ap hg (by omega) (fc x.fr)
  have hT':=a4 _ _ hd hT
  have gx':=a4 _ _ hdx gx
  simp only[push_cast,hal,h2,h5,h6,h7,h8,h9,h10,d1,hT,gx,hf,a1,↓WX,simprocAttr]
  exact⟨_,_,rfl,a2,λn h=>by have:=(D.os.inj h).1;omega,⟨by rw[Yd,(hc2 e).1,e];rfl,by rw[(hc2 e).1];exact (hc2 e).2⟩,hT',by omega,gx'⟩
 clear hg hd hc0 hc1 hc2 hT hTl hcl hdx
 rintro a T ⟨⟨d,cs,h5,hg,hd,⟨hc,hcc⟩,hT,hTl,gk⟩,hal,h2,h7,h8,h9,h10⟩
 rw[gx]at gk
 obtain⟨S',a1,a2,a3,a4⟩:=ap hg (by omega) (fc x.to)
 have hT':=a4 _ _ hd hT
 simp(maxSteps:=1000000)(disch:=omega)only[push_cast,hal,h2,h5,h7,h8,h9,h10,hT,gk,hf,a1,hlt,wrap_ok,Int.natCast_add,Int.natCast_one,↓WX,simprocAttr]
 exact⟨_,_,rfl,a2,λn h=>by have:=(D.os.inj h).1;omega,hcc.symm,hT',by omega⟩
theorem PCities_x (p:Plc) (hpa:p.aps.length<=1048576) (l:List Wnt) (lx:Bool) (hl:l.length<=1000) (hn:1048600<=n):∃d,FLs 1 Cnd.encT d (citF p l)/\∀st S,callD E (dcall E n) st S 58 [.agg p.enc,.sl 8 (l.map Wnt.enc) lx]=some (d,S):=by
 obtain⟨m,rfl⟩:∃m,n=m+1:=⟨n-1,by omega⟩
 obtain⟨d,T,ho,cs,hg,rfl⟩:=PCities_d (n:=m) p hpa l lx hl (by omega)
 obtain⟨d',f,hf⟩:=hg.fls (Cnd.encT_pure _)
 exact⟨d',hf,λst S=>callD_pure rfl (by simp only[pureL_cons,pureL_nil,D.pure,Plc_pure,Wnts_pure,Yj]) ho f⟩
end
def stpP (u v:Int):Bool:= !decide (v<=u) && decide (1440<=IntKind.u64.wrap (IntKind.u64.wrap v-IntKind.u64.wrap u))
def endF (f:Far) (l:List Wnt) (cs:List ByteArray):Bool:=
 (l.all λw=>decide (w.car=f.car)) && (decide ((cs[0]?).getD (ByteArray.mk #[])=f.frm) && decide ((cs[cs.length-1]?).getD (ByteArray.mk #[])=f.dst))
section
variable {n : Nat}
theorem PStops_x (u v:Int) (hn:1<=n):∀st S,callD E (dcall E n) st S 123 [.int .i64 u,.int .i64 v]=some (.bool (stpP u v),S):=by
 obtain⟨m,rfl⟩:∃m,n=m+1:=⟨n-1,by omega⟩
 have:WO (dcall E (m+1) 123 [.int .i64 u,.int .i64 v] []) λr T=>r=.bool (stpP u v):=by
  unfold stpP
  refine wo_dcall Tryz.func123 rfl (by decide) rfl 14 rfl (λa hal ha=>?_)
  have h0:a[0]?=some _:=ha 0 (by simp)
  have h1:a[1]?=some _:=ha 1 (by simp)
  clear ha
  cases c:decide (v<=u)
  ·simp only[push_cast,hal,h0,h1,c,Xe,Tryz.f123,↓WX,simprocAttr,WY]
  ·simp only[push_cast,hal,h0,h1,c,Tryz.f123,↓WX,simprocAttr,WY]
 obtain⟨_,T,ho,rfl⟩:=this
 exact λst S=>callD_pure rfl rfl ho rfl
theorem PEnds_x (f:Far) (l:List Wnt) (lx:Bool) (hl:l.length<=1048576) (cs:List ByteArray) (cx:Bool) (hcs:1<=cs.length) (hcl:cs.length<=1048577) (hn:1048590<=n):∀st S,callD E (dcall E n) st S 59 [.agg f.enc,.sl 8 (l.map Wnt.enc) lx,.sl 1 (cs.map Cnd.encT) cx]=some (.bool (endF f l cs),S):=by
 obtain⟨m,rfl⟩:∃m,n=m+1:=⟨n-1,by omega⟩
 have hc0:0<cs.length:=by omega
 have hc0c:(0:Int)<cs.length:=by omega
 have hgc:(0<=(cs.length:Int)-1)=True:=eq_true (by omega)
 have htc':((cs.length:Int)-1).toNat=cs.length-1:=by omega
 have hcl1:cs.length-1<cs.length:=by omega
 have hwc:IntKind.i64.wrap ((cs.length:Int)-1)=(cs.length:Int)-1:=wrap_ok (by omega) (by omega)
 obtain⟨u,hu⟩:∃u,cs[0]?=some u:=⟨cs[0],by simp⟩
 obtain⟨v,hv⟩:∃v,cs[cs.length-1]?=some v:=⟨cs[cs.length-1],by simp⟩
 have hef:endF f l cs=((l.all λw=>decide (w.car=f.car)) && (decide (u=f.frm) && decide (v=f.dst))):=by
  unfold endF
  rw[hu,hv]
  rfl
 rw[hef]
 have:WO (dcall E (m+1) 59 [.agg f.enc,.sl 8 (l.map Wnt.enc) lx,.sl 1 (cs.map Cnd.encT) cx] []) λr T=>r=.bool ((l.all λw=>decide (w.car=f.car)) && (decide (u=f.frm) && decide (v=f.dst))):=by
  obtain⟨q,hq⟩:∃q,q=((l.all λw=>decide (w.car=f.car)) && (decide (u=f.frm) && decide (v=f.dst))):=⟨_,rfl⟩
  rw[<-hq]
  have hfe:Far.enc f=[.str f.car,.str f.frm,.str f.dst,.str f.bas,.str f.cls,.bool f.rnd,.int .i64 f.amt,.int .i64 f.rul,.int .i64 f.rou]:=rfl
  rw[hfe]
  refine wo_dcall Tryz.func59 rfl (by decide) rfl 39 rfl (λa hal ha=>?_)
  have h0:a[0]?=some _:=ha 0 (by simp)
  have h1:a[1]?=some _:=ha 1 (by simp)
  have h2:a[2]?=some _:=ha 2 (by simp)
  clear ha
  simp only[push_cast,hal,h0,h1,↓WX,simprocAttr]
  refine wl_loop (λi a T=>(q=(((l.drop i).all λw=>decide (w.car=f.car)) && (decide (u=f.frm) && decide (v=f.dst)))/\T[0]?=some (Ob.row 9 [[.str f.car,.str f.frm,.str f.dst,.str f.bas,.str f.cls,.bool f.rnd,.int .i64 f.amt,.int .i64 f.rul,.int .i64 f.rou]]))/\a.length=39/\a[2]?=some (.sl 1 (cs.map Cnd.encT) cx)/\a[3]?=some (.loc 0 0 0)/\a[9]?=some (.sl 8 (l.map Wnt.enc) lx)/\a[10]?=some (.int .i64 l.length)/\a[11]?=some (.int .i64 i)) l.length ?_ (by omega) ?_
  ·simp only[push_cast,hal,h2,simprocAttr,WY]
   exact hq
  clear hq
  rintro i a T hi ⟨⟨e,g0⟩,hal,h2,h3,h9,h10,h11⟩
  rcases Yf hi with hlt |rfl
  case inr=>
   rw[Zt,List.all_nil,Bool.true_and]at e
   rw[e]
   cases e1:decide (u=f.frm)
   ·simp only[push_cast,hal,h2,h3,h10,h11,g0,hu,e1,str_eq,Cnd.encT,Tryz.f59,↓WX,simprocAttr,WY]
   ·simp only[push_cast,hal,h2,h3,h10,h11,g0,hgc,htc',hwc,hu,hv,e1,str_eq,Cnd.encT,Tryz.f59,↓WX,simprocAttr,WY]
  have hltc:(i:Int)<l.length:=by omega
  obtain⟨x,hx⟩:∃x,l[i]?=some x:=⟨l[i],by simp⟩
  rw[drop_at hx,List.all_cons]at e
  refine wc_scut (λa W=>W=T/\a.length=39/\a[2]?=some (.sl 1 (cs.map Cnd.encT) cx)/\a[3]?=some (.loc 0 0 0)/\a[9]?=some (.sl 8 (l.map Wnt.enc) lx)/\a[10]?=some (.int .i64 l.length)/\a[11]?=some (.int .i64 i)/\a[12]?=some (.bool true)) ?_ ?_
  ·simp only[push_cast,hal,h2,h3,h9,h10,h11,hltc,↓WX,simprocAttr]
  rintro a W ⟨rfl,hal,h2,h3,h9,h10,h11,h12⟩
  refine wc_scut (λa V=>V=W/\a.length=39/\a[2]?=some (.sl 1 (cs.map Cnd.encT) cx)/\a[3]?=some (.loc 0 0 0)/\a[9]?=some (.sl 8 (l.map Wnt.enc) lx)/\a[10]?=some (.int .i64 l.length)/\a[11]?=some (.int .i64 i)) ?_ ?_
  ·simp only[push_cast,hal,h2,h3,h9,h10,h11,h12,↓WX]
  rintro a V ⟨rfl,hal,h2,h3,h9,h10,h11⟩
  rw[wc_seq,wc_block]
  refine wc_scut (λa T=>(∃kx,a[8]?=some (.loc kx 0 0)/\T[kx]?=some (Ob.row 8 [x.enc])/\T[0]?=some (Ob.row 9 [[.str f.car,.str f.frm,.str f.dst,.str f.bas,.str f.cls,.bool f.rnd,.int .i64 f.amt,.int .i64 f.rul,.int .i64 f.rou]]))/\a.length=39/\a[2]?=some (.sl 1 (cs.map Cnd.encT) cx)/\a[3]?=some (.loc 0 0 0)/\a[9]?=some (.sl 8 (l.map Wnt.enc) lx)/\a[10]?=some (.int .i64 l.length)/\a[11]?=some (.int .i64 i)) ?_ ?_
  ·simp only[push_cast,hal,h2,h3,h9,h10,h11,hx,get_end,set_end,Wnt.enc,↓WX,simprocAttr]
   exact⟨_,rfl,get_end,get_old g0⟩
  clear g0
  rintro a T ⟨⟨kx,h8,gx,g0⟩,hal,h2,h3,h9,h10,h11⟩
  simp only[Wnt.enc]at gx
  cases e1:decide (x.car=f.car)
  ·rw[e1,Bool.false_and,Bool.false_and]at e
   rw[e]
   simp only[push_cast,hal,h3,h8,g0,gx,e1,str_eq,Tryz.f59,↓WX,simprocAttr,WY]
  ·rw[e1,Bool.true_and]at e
   simp(maxSteps:=1000000)(disch:=omega)only[push_cast,hal,h2,h3,h8,h9,h10,h11,g0,gx,e1,str_eq,Bool.not_true,hlt,wrap_ok,Int.natCast_add,Int.natCast_one,↓WX,simprocAttr]
   exact e
 obtain⟨_,T,ho,rfl⟩:=this
 exact λst S=>callD_pure rfl (by simp only[pureL_cons,pureL_nil,D.pure,Far_pure,Wnts_pure,Cnd.encT_pure,Yj]) ho rfl
end
section
variable {n : Nat}
theorem PWhy1_c {ck:Nat} {f:Far} {S:List Ob} (ht:S[ck]?=some (.row 9 [f.enc])) (q:Wnt):
  ∃T,callD E (dcall E (n+1)) false S 61 [.agg q.enc,.loc ck 0 0]=some (.bool (!decide (q.cls=f.cls)),T)/\ExtS S T:=by
 have ht':=get_old (J:=[Ob.row 8 [q.enc]]) ht
 have:WO (dcall E (n+1) 61 [.agg q.enc,.loc ck 0 0] S) λd T=>d=.bool (!decide (q.cls=f.cls))/\ExtS S T:=by
  have hqe:Wnt.enc q=[.str q.car,.int .i64 q.num,.int .i64 q.day,.str q.fr,.str q.to,.int .i64 q.dep,.int .i64 q.arr,.str q.cls]:=rfl
  have hfe:Far.enc f=[.str f.car,.str f.frm,.str f.dst,.str f.bas,.str f.cls,.bool f.rnd,.int .i64 f.amt,.int .i64 f.rul,.int .i64 f.rou]:=rfl
  rw[hqe,hfe]at ht'
  rw[hqe]
  refine wo_dcall Tryz.func61 rfl (by decide) rfl 9 rfl (λa hal ha=>?_)
  have h0:a[0]?=some _:=ha 0 (by simp)
  have h1:a[1]?=some _:=ha 1 (by simp)
  clear ha
  simp only[push_cast,hal,h0,h1,ht',get_end,str_eq,Tryz.f61,↓WX,simprocAttr]
  exact ExtS.refl.push _
 obtain⟨r,T,hT,rfl,h⟩:=this
 exact⟨T,(callD_own rfl (by simp[pureL,D.pure])).trans hT,h⟩
theorem PIxW_d {F:Nat} {ys:List D} {p:Wnt->Bool} {l:List Wnt} {lx:Bool} {S:List Ob} (hn:1048580<=n) (hl:l.length<=1048576)
  (hF:∀T,ExtS S T->∀q,∃U,callD E (dcall E (n+1)) false T F (.agg (Wnt.enc q)::ys)=some (.bool (p q),U)/\ExtS T U):
  WO (dcall E (n+2) 118 [.sl 8 (l.map Wnt.enc) lx,.func F [] ys] S) λr T=>∃k:Int,r=.int .i64 k/\decide (0<=k)=l.any p/\ExtS S T:=by
 obtain⟨b,hb⟩:∃b,b=l.any p:=⟨_,rfl⟩
 rw[<-hb]
 refine wo_dcall Tryz.func118 rfl (by decide) rfl 19 rfl (λa hal ha=>?_)
 have h0:a[0]?=some _:=ha 0 (by simp)
 have h1:a[1]?=some _:=ha 1 (by simp)
 clear ha
 simp only[push_cast,hal,h0,↓WX,simprocAttr]
 refine wl_loop (λi a T=>(ExtS S T/\b=(l.drop i).any p)/\a.length=19/\a[0]?=some (.sl 8 (l.map Wnt.enc) lx)/\a[1]?=some (.func F [] ys)/\a[7]?=some (.int .i64 l.length)/\a[8]?=some (.int .i64 i)) l.length ?_ (by omega) ?_
 ·simp only[push_cast,hal,h0,h1,simprocAttr,WY]
  exact⟨ExtS.refl,hb⟩
 clear hb
 rintro i a T hi ⟨⟨hx,e⟩,hal,h0,h1,h7,h8⟩
 rcases Yf hi with hlt |rfl
 case inr=>
  rw[Zt,List.any_nil]at e
  subst e
  simp only[push_cast,decide_eq_false_iff_not,hal,h7,h8,Tryz.f118,↓WX,simprocAttr,WY]
  exact⟨_,rfl,by simp,hx⟩
 have hltc:(i:Int)<l.length:=by omega
 obtain⟨q,hq⟩:∃q,l[i]?=some q:=⟨l[i],by simp⟩
 rw[drop_at hq,List.any_cons]at e
 obtain⟨U,hU,hxU⟩:=hF T hx q
 simp only[Wnt.enc]at hU
 cases hp:p q
 ·rw[hp]at hU e
  rw[Bool.false_or]at e
  simp(maxSteps:=1000000)(disch:=omega)only[push_cast,hal,h0,h1,h7,h8,↓wo_callv,callV_func,hltc,hlt,hq,Wnt.enc,hU,wrap_ok,Zz,Ze,Int.natCast_add,Int.natCast_one,↓WX,simprocAttr]
  exact⟨hx.trans hxU,e⟩
 ·rw[hp]at hU e
  rw[Bool.true_or]at e
  subst e
  simp only[push_cast,Yy,hal,h0,h1,h7,h8,↓wo_callv,callV_func,hltc,hq,Wnt.enc,hU,Zz,Ze,Tryz.f118,↓WX,simprocAttr]
  exact⟨_,rfl,by simp,hx.trans hxU⟩
theorem PCtW_c {ck:Nat} {f:Far} {l:List Wnt} {lx:Bool} {S:List Ob} (hn:1048590<=n) (hl:l.length<=1048576) (ht:S[ck]?=some (.row 9 [f.enc])):
  ∃T,callD E (dcall E n) false S 60 [.sl 8 (l.map Wnt.enc) lx,.func 61 [] [.loc ck 0 0]]=some (.bool (l.any λq=> !decide (q.cls=f.cls)),T)/\ExtS S T:=by
 obtain⟨m,rfl⟩:∃m,n=m+3:=⟨n-3,by omega⟩
 obtain⟨r,T,hT,k,rfl,hk,hx⟩:=PIxW_d (n:=m) (F:=61) (ys:=[.loc ck 0 0]) (p:=λq=> !decide (q.cls=f.cls)) (l:=l) (lx:=lx) (S:=S) (by omega) hl λT h q=>PWhy1_c (h _ _ ht) q
 have cx:callD E (dcall E (m+2)) false S 118 [.sl 8 (l.map Wnt.enc) lx,.func 61 [] [.loc ck 0 0]]=some (.int .i64 k,T):=(callD_own rfl (by simp[pureL,D.pure])).trans hT
 rw[<-hk]
 have:WO (dcall E (m+3) 60 [.sl 8 (l.map Wnt.enc) lx,.func 61 [] [.loc ck 0 0]] S) λd T=>d=.bool (decide (0<=k))/\ExtS S T:=by
  refine wo_dcall Tryz.func60 rfl (by decide) rfl 9 rfl (λa hal ha=>?_)
  have h0:a[0]?=some _:=ha 0 (by simp)
  have h1:a[1]?=some _:=ha 1 (by simp)
  clear ha
  simp only[push_cast,hal,h0,h1,cx,Xe,Tryz.f60,↓WX,simprocAttr]
  exact hx
 obtain⟨r,T',hT',rfl,h⟩:=this
 exact⟨T',(callD_own rfl (by simp[pureL,D.pure])).trans hT',h⟩
end
end Go.Proofs.YtaklebjoenophaaGreat.Dm
