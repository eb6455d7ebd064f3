/-
  Whether fares combine: the reference, exactly.
-/
import Derived.Test.YtaklebjoenophaaGreatPoX
set_option linter.unusedSimpArgs false
set_option linter.unusedVariables false
namespace Go.Proofs.YtaklebjoenophaaGreat.Dm
open Go Gw
set_option linter.unusedSimpArgs false
set_option linter.unusedSimpArgs false
def rulF (t:Trf) (x:Prt):Option Rul:=t.rules.find? fun r=>decide (r.num=(farF t x).rul)
def mxF {α:Type} (f:α→α→Bool):List α→List α→Bool
 |_,[]=>true
 |ys,x::xs=>(ys.all fun y=>f x y) && mxF f (ys++[x]) xs
def mixedF (t:Trf) (l:List Prt):Int:=if l.all (knoF t)=true then if mxF (fun x y=>mix2F (rulF t x) (rulF t y)) [] l=true then 0 else 23 else 19
def dpF (p:Plc) (w:Wnt):Int×Int:=match p.aps.find? fun a=>a.code.toList == w.fr.toList with
 |none=>(0,14)
 |some a=>(dayF (locF (some a) w.dep),0)
def zeWnt:Wnt:=⟨ByteArray.mk #[],0,0,ByteArray.mk #[],ByteArray.mk #[],0,0,ByteArray.mk #[]⟩
def wntF (w:List Wnt) (x:Prt):Wnt:=(w[x.fr.toNat]?).getD zeWnt
def styF (p:Plc) (t:Trf) (w:List Wnt) (a b:Prt):Int:=
 if (dpF p (wntF w a)).2=0∧(dpF p (wntF w b)).2=0 then
  if stayR (rulF t a) (dpF p (wntF w a)).1 (dpF p (wntF w b)).1=0 then stayR (rulF t b) (dpF p (wntF w a)).1 (dpF p (wntF w b)).1 else stayR (rulF t a) (dpF p (wntF w a)).1 (dpF p (wntF w b)).1
 else 14
def fstE {α:Type} (f:α→Int):List α→Int
 | []=>0
 |x::xs=>if f x=0 then fstE f xs else f x
def zePrt:Prt:=⟨0,0,0,0⟩
def prtAt (l:List Prt) (i:Int):Prt:=(l[i.toNat]?).getD zePrt
def frOk (w:List Wnt) (x:Prt):Bool:= !(decide (x.fr<0) || decide (x.fr≥w.length))
def staysF (p:Plc) (t:Trf) (w:List Wnt) (l:List Prt):Int:=if l.all (frOk w)=true then if (pairsF t l).2=0 then fstE (fun q:Int×Int=>styF p t w (prtAt l q.1) (prtAt l q.2)) (pairsF t l).1 else (pairsF t l).2 else 2
def whF:List Prt→Int→Option Int
 | [],k=>some k
 |x::xs,k=>if (!decide (x.fr=k) || decide (x.to≤k))=true then none else whF xs x.to
def wholeF (w:List Wnt) (l:List Prt):Bool:=match whF l 0 with |some k=>decide ((l.length:Int)>0) && decide (k=w.length) |none=>false
def checkF (p:Plc) (t:Trf) (w:List Wnt) (l:List Prt):Int:=if wholeF w l=true then if (pairsF t l).2=0 then if mixedF t l=0 then staysF p t w l else mixedF t l else (pairsF t l).2 else 2
theorem prsF_mem {t:Trf}:∀ {l:List Prt} {i:Nat} {ps qs:List (Int×Int)},prsF t i l ps=some qs→(∀q∈ps,0≤q.1∧q.1<i+l.length∧0≤q.2∧q.2<i+l.length)→∀q∈qs,0≤q.1∧q.1<i+l.length∧0≤q.2∧q.2<i+l.length
 | [],i,ps,qs,h,g=>by
  unfold prsF at h
  obtain rfl:=Option.some.inj h
  exact g
 |x::xs,i,ps,qs,h,g=>by
  unfold prsF at h
  have e:((i:Int)+((x::xs).length:Nat))=((i+1:Nat):Int)+(xs.length:Nat):=by rw[List.length_cons];omega
  rw[e]at g ⊢
  split at h
  ·exact prsF_mem h g
  ·split at h
   ·cases h
   ·rename_i c
    refine prsF_mem h fun q hq=>?_
    rcases List.mem_append.1 hq with hq |hq
    ·exact g q hq
    ·obtain rfl:q=((i:Int),prtF t ps (farF t x) (i+1) xs):=by simpa using hq
     rcases prtF_bound (t:=t) (ps:=ps) (a:=farF t x) (l:=xs) (k:=i+1) with b |b
     ·exact (c b).elim
     ·dsimp only
      omega
theorem pairsF_mem {t:Trf} {l:List Prt}:∀q∈(pairsF t l).1,0≤q.1∧q.1<l.length∧0≤q.2∧q.2<l.length:=by
 intro q hq
 unfold pairsF at hq
 split at hq
 ·cases e:prsF t 0 l [] with
  |none=>rw[e]at hq;cases hq
  |some ps=>
   rw[e]at hq
   have:=prsF_mem e (fun q h=>by cases h) q hq
   simpa using this
 ·cases hq
theorem pairsF_len {t:Trf} {l:List Prt}:(pairsF t l).1.length≤l.length:=by
 have key:∀(l:List Prt) (i:Nat) (ps qs:List (Int×Int)),prsF t i l ps=some qs→qs.length≤ps.length+l.length:=by
  intro l
  induction l with
  |nil=>intro i ps qs h;unfold prsF at h;obtain rfl:=Option.some.inj h;simp
  |cons x xs ih=>
   intro i ps qs h
   unfold prsF at h
   rw[List.length_cons]
   split at h
   ·have:=ih _ _ _ h;omega
   ·split at h
    ·cases h
    ·have:=ih _ _ _ h
     rw[List.length_append,List.length_singleton]at this
     omega
 unfold pairsF
 split
 ·cases e:prsF t 0 l [] with
  |none=>exact Nat.zero_le _
  |some ps=>have:=key _ _ _ _ e;simpa using this
 ·exact Nat.zero_le _
theorem pairsF_kno {t:Trf} {l:List Prt} (h:(pairsF t l).2=0):∀x∈l,knoF t x=true:=by
 unfold pairsF at h
 split at h
 ·rename_i c
  exact List.all_eq_true.1 c
 ·cases h
section
variable {n : Nat}
theorem Pairs26_x {S:List Ob} (t:Trf) {d:D} {l:List Prt} (h:LQ 4 Prt.enc S d l) (hl:l.length≤900) (hn:3001≤n):∃d' T,callD E (dcall E n) false S 37 [.agg t.enc,d]=some (.tup [d',.int .i64 (pairsF t l).2],T)∧ExtS S T∧LQ 2 encPr T d' (pairsF t l).1:=by
 obtain⟨m,rfl⟩:∃m,n=m+1:=⟨n-1,by omega⟩
 by_cases hp:d.pure=true
 ·obtain⟨_,T,ho,hx,d',rfl,hg⟩:=Pairs26_d (n:=m) (S:=[]) t (h.pure0 hp).lq hl (by omega)
  obtain⟨d2,hf,hd⟩:=hg.flsN (encPrs_pure _) 37
  refine⟨d2,S,callD_pure rfl (by simp only[pureL_cons,pureL_nil,D.pure,Trf_pure,hp,Bool.and_true]) ho ?_,fun _ _ h=>h,hd.lq⟩
  exact freeze_tup2 hf
 ·obtain⟨_,T,ho,hx,d',rfl,hg⟩:=Pairs26_d (n:=m) t h hl (by omega)
  exact⟨d',T,(callD_own rfl (by simp only[pureL_cons,pureL_nil,D.pure,Trf_pure,Bool.and_true,Bool.true_and];simpa using hp)).trans ho,hx,hg.lq⟩
set_option maxHeartbeats 8000000 in
set_option maxRecDepth 100000 in
theorem rule26_x (t:Trf) (x:Prt) (hx:knoF t x=true) (hr:t.rules.length≤1048576) (hn:1048590≤n):∀st S,callD E (dcall E n) st S 145 [.agg t.enc,.agg x.enc]=some (rulD (rulF t x),S):=by
 obtain⟨m,rfl⟩:∃m,n=m+1:=⟨n-1,by omega⟩
 have hp:pureL [.agg t.enc,.agg x.enc]=true:=by simp only[pureL_cons,pureL_nil,D.pure,Trf_pure,Prt_pure,Bool.and_true]
 obtain⟨fx1,fx2,fx3⟩:=knoF_far hx
 have fx1':(0≤x.fa)=True:=eq_true fx1
 have hru:=Rule24_x (n:=m) (t.fares.map Far.enc) (t.rous.map Rou.enc) (t.taxes.map Tx.enc) t.fx t.ox t.tx t.rules t.rx (Fars_pure _) (Rous_pure _) (Txs_pure _) hr (by omega) (farF t x).rul
 unfold rulF
 generalize farF t x=f at*
 generalize t.rules.find? (fun r=>decide (r.num=f.rul))=o at*
 generalize o.isSome=b at hru
 have hpo:=rulD_pure o
 obtain⟨y1,y2,y3,y4,y5,y6,y7,y8,y9,y10,y11,y12,y13,y14,hy,⟨r1,r2,r3,r4,r5,r6,r7⟩,r8,r9,r10,r11,r12,r13,r14⟩:=rul_lit o
 rw[hy]at hru hpo ⊢
 simp only[D.one]at r1 r2 r3 r4 r5 r6 r7 r8 r9 r10 r11 r12 r13 r14
 simp only[Trf.enc,Prt.enc]at hp ⊢
 have:WO (dcall E (m+1) 145 [.agg [.sl 9 (t.fares.map Far.enc) t.fx,.sl 15 (t.rules.map Rul.enc) t.rx,.sl 3 (t.rous.map Rou.enc) t.ox,.sl 7 (t.taxes.map Tx.enc) t.tx],.agg [.int .i64 x.fr,.int .i64 x.to,.int .i64 x.fa,.int .i64 x.am]] []) fun r T=>r=.agg [.int .i64 (numF o),y1,y2,y3,y4,y5,y6,y7,y8,y9,y10,y11,y12,y13,y14]:=by
  refine wo_dcall Tryz.func145 rfl (by decide) rfl 20 rfl (fun a hal ha=>?_)
  have h0:a[0]? =some (.agg [.sl 9 (t.fares.map Far.enc) t.fx,.sl 15 (t.rules.map Rul.enc) t.rx,.sl 3 (t.rous.map Rou.enc) t.ox,.sl 7 (t.taxes.map Tx.enc) t.tx]):=ha 0 (by simp)
  have h1:a[1]? =some (.agg [.int .i64 x.fr,.int .i64 x.to,.int .i64 x.fa,.int .i64 x.am]):=ha 1 (by simp)
  clear ha
  simp(maxSteps:=1000000)(disch:=omega)only[push_cast,decide_not,decide_eq_true_eq,decide_eq_false_iff_not,bne_eq_false_iff_eq,beq_eq_false_iff_ne,gt_iff_lt,ne_eq,not_true_eq_false,not_false_eq_true,hal,h0,h1,fx1',fx2,fx3,hru,Far.enc,r1,r2,r3,r4,r5,r6,r7,r8,r9,r10,r11,r12,r13,r14,Tryz.f145,↓WX,simprocAttr]
 obtain⟨_,T,ho,rfl⟩:=this
 exact fun st S=>callD_pure rfl hp ho (freeze_pure hpo)
theorem mxF_all {α:Type} {f:α→α→Bool} {ys:List α} {x:α} (h:∀y∈ys,f x y=true) (xs:List α):mxF f ys (x::xs)=mxF f (ys++[x]) xs:=by
 rw[mxF,List.all_eq_true.2 h,Bool.true_and]
theorem mxF_no {α:Type} {f:α→α→Bool} {ys:List α} {x y:α} (hy:y∈ys) (h:f x y=false) (xs:List α):mxF f ys (x::xs)=false:=by
 rw[mxF]
 have:(ys.all fun y=>f x y)=false:=by
  rw[List.all_eq_false]
  exact⟨y,hy,by rw[h];simp⟩
 rw[this,Bool.false_and]
set_option maxHeartbeats 16000000 in
set_option maxRecDepth 100000 in
theorem Mixed26_d {S:List Ob} (t:Trf) {d:D} {l:List Prt} (h:LQ 4 Prt.enc S d l) (hl:l.length≤900) (hr:t.rules.length≤1048576) (hcb:∀r∈t.rules,r.comb.length≤1048576) (hn:1048700≤n):
  WO (dcall E (n+1) 91 [.agg t.enc,d] S) fun r T=>r=.int .i64 (mixedF t l)∧∃J,T=S++J:=by
 have hy:=lq_len Tryz.underlying37 h
 simp only[push_cast]at hy
 obtain⟨R0,hR0⟩:∃R0,R0=Ob.row 4 [t.enc]:=⟨_,rfl⟩
 have ck:=known26_x (n:=n) t (h.ext (extS_app (J:=[R0]))) (by omega) (by omega)
 unfold mixedF
 have hk:l.all (knoF t)=true→∀x∈l,knoF t x=true:=fun h=>List.all_eq_true.1 h
 generalize l.all (knoF t)=kb at*
 obtain⟨q,hq⟩:∃q,q=mxF (fun x y=>mix2F (rulF t x) (rulF t y)) [] l:=⟨_,rfl⟩
 rw[←hq]
 have crl:=fun x hx=>rule26_x (n:=n) t x hx hr (by omega)
 have cmx:=fun x y=>Mix21_x (n:=n) (rulF t x) (rulF t y) (fun r hr=>hcb r (List.mem_of_find?_eq_some hr)) (fun r hr=>hcb r (List.mem_of_find?_eq_some hr)) (by omega)
 simp only[Trf.enc]at ck crl hR0 ⊢
 refine wo_dcall Tryz.func91 rfl (by decide) rfl 36 rfl (fun a hal ha=>?_)
 have h0:a[0]? =some (.agg [.sl 9 (t.fares.map Far.enc) t.fx,.sl 15 (t.rules.map Rul.enc) t.rx,.sl 3 (t.rous.map Rou.enc) t.ox,.sl 7 (t.taxes.map Tx.enc) t.tx]):=ha 0 (by simp)
 have h1:a[1]? =some (d):=ha 1 (by simp)
 clear ha
 refine wc_scut (fun a V=>V=S++[R0]∧a.length=36∧a[1]? =some (d)∧a[2]? =some (.loc S.length 0 0)) ?_ ?_
 ·simp(maxSteps:=1000000)(disch:=omega)only[push_cast,decide_not,decide_eq_true_eq,decide_eq_false_iff_not,bne_eq_false_iff_eq,beq_eq_false_iff_ne,gt_iff_lt,ne_eq,not_true_eq_false,not_false_eq_true,hal,h0,h1,hR0,↓WX,simprocAttr]
 clear hal h0 h1 a
 rintro a V ⟨rfl,hal,h1,h2⟩
 have gR:(S++[R0])[S.length]? =some (Ob.row 4 [[.sl 9 (t.fares.map Far.enc) t.fx,.sl 15 (t.rules.map Rul.enc) t.rx,.sl 3 (t.rous.map Rou.enc) t.ox,.sl 7 (t.taxes.map Tx.enc) t.tx]]):=by rw[hR0];exact get_end
 cases kb
 ·simp(maxSteps:=1000000)(disch:=omega)only[push_cast,decide_not,decide_eq_true_eq,decide_eq_false_iff_not,bne_eq_false_iff_eq,beq_eq_false_iff_ne,gt_iff_lt,ne_eq,not_true_eq_false,not_false_eq_true,hal,h1,h2,gR,ck,Bool.not_false,Bool.false_eq_true,if_false,Tryz.f91,↓WX,simprocAttr]
  exact⟨_,rfl⟩
 simp only[if_true]
 have hk:=hk rfl
 refine wc_scut (fun a V=>V=S++[R0]∧a.length=36∧a[1]? =some (d)∧a[2]? =some (.loc S.length 0 0)) ?_ ?_
 ·simp(maxSteps:=1000000)(disch:=omega)only[push_cast,decide_not,decide_eq_true_eq,decide_eq_false_iff_not,bne_eq_false_iff_eq,beq_eq_false_iff_ne,gt_iff_lt,ne_eq,not_true_eq_false,not_false_eq_true,hal,h1,h2,gR,ck,Bool.not_true,↓WX,simprocAttr]
 clear hal h1 h2 a
 rintro a V ⟨rfl,hal,h1,h2⟩
 refine wc_rcut (fun a T=>(T=S++[R0]∧q=true)∧a.length=36∧a[2]? =some (.loc S.length 0 0)) ?_ ?_
 ·simp(maxSteps:=1000000)(disch:=omega)only[push_cast,decide_not,decide_eq_true_eq,decide_eq_false_iff_not,bne_eq_false_iff_eq,beq_eq_false_iff_ne,gt_iff_lt,ne_eq,not_true_eq_false,not_false_eq_true,hal,h1,h2,↓WX,simprocAttr]
  refine wl_loop (fun i a T=>(T=S++[R0]∧q=mxF (fun x y=>mix2F (rulF t x) (rulF t y)) (l.take i) (l.drop i))∧a.length=36∧a[1]? =some (d)∧a[2]? =some (.loc S.length 0 0)∧a[5]? =some (.int .i64 i)) l.length ?_ (by omega) ?_
  ·simp(maxSteps:=1000000)(disch:=omega)only[push_cast,decide_not,decide_eq_true_eq,decide_eq_false_iff_not,bne_eq_false_iff_eq,beq_eq_false_iff_ne,gt_iff_lt,ne_eq,not_true_eq_false,not_false_eq_true,hal,h1,h2,Int.natCast_zero,↓WX,simprocAttr]
   exact hq
  clear hal h1 h2 a
  clear hq ck
  rintro i a T hi ⟨⟨rfl,e0⟩,hal,h1,h2,h5⟩
  rcases Nat.lt_or_eq_of_le hi with hlt |rfl
  case inr=>
   rw[List.drop_length,mxF]at e0
   simp(maxSteps:=1000000)(disch:=omega)only[push_cast,decide_not,decide_eq_true_eq,decide_eq_false_iff_not,bne_eq_false_iff_eq,beq_eq_false_iff_ne,gt_iff_lt,ne_eq,not_true_eq_false,not_false_eq_true,hal,h1,h2,h5,hy,Int.lt_irrefl,false_and,false_or,or_false,true_and,↓WX,simprocAttr]
   exact e0
  have hltc:(i:Int)<l.length:=by omega
  obtain⟨x,hx⟩:∃x,l[i]? =some x:=⟨l[i],by simp⟩
  have hti:(l.take (i+1))=l.take i++[x]:=by rw[List.take_add_one,hx];rfl
  have crx:=crl x (hk x (List.mem_of_getElem? hx))
  rw[drop_at hx]at e0
  simp(maxSteps:=1000000)(disch:=omega)only[push_cast,decide_not,decide_eq_true_eq,decide_eq_false_iff_not,bne_eq_false_iff_eq,beq_eq_false_iff_ne,gt_iff_lt,ne_eq,not_true_eq_false,not_false_eq_true,hal,h1,h2,h5,hy,hltc,↓WX,simprocAttr]
  refine wl_loop (fun k a T=>(T=S++[R0]∧∀y∈l.take k,mix2F (rulF t x) (rulF t y)=true)∧a.length=36∧a[1]? =some (d)∧a[2]? =some (.loc S.length 0 0)∧a[5]? =some (.int .i64 i)∧a[6]? =some (.int .i64 k)) i ?_ (by omega) ?_
  ·simp(maxSteps:=1000000)(disch:=omega)only[push_cast,decide_not,decide_eq_true_eq,decide_eq_false_iff_not,bne_eq_false_iff_eq,beq_eq_false_iff_ne,gt_iff_lt,ne_eq,not_true_eq_false,not_false_eq_true,hal,h1,h2,h5,Int.natCast_zero,↓WX,simprocAttr]
   exact fun y hy=>by cases hy
  clear hal h1 h2 h5 a
  rintro k a T hik ⟨⟨rfl,e1⟩,hal,h1,h2,h5,h6⟩
  rcases Nat.lt_or_eq_of_le hik with hkt |rfl
  case inr=>
   rw[mxF_all e1,←hti]at e0
   simp(maxSteps:=1000000)(disch:=omega)only[push_cast,decide_not,decide_eq_true_eq,decide_eq_false_iff_not,bne_eq_false_iff_eq,beq_eq_false_iff_ne,gt_iff_lt,ne_eq,not_true_eq_false,not_false_eq_true,hal,h1,h2,h5,h6,Int.lt_irrefl,wrap_ok,Int.natCast_add,Int.natCast_one,↓WX,simprocAttr]
   exact⟨by omega,e0⟩
  have hktc:(k:Int)<i:=by omega
  have hkl:k<l.length:=by omega
  have hklc:(k:Int)<l.length:=by omega
  obtain⟨y,hyk⟩:∃y,l[k]? =some y:=⟨l[k],by simp⟩
  have hyt:y∈l.take i:=by
   have:(l.take i)[k]? =some y:=by rw[List.getElem?_take,if_pos hkt];exact hyk
   exact List.mem_of_getElem? this
  have cry:=crl y (hk y (List.mem_of_getElem? hyk))
  have cm:=cmx x y
  have hno:mix2F (rulF t x) (rulF t y)=false→mxF (fun x y=>mix2F (rulF t x) (rulF t y)) (l.take i) (x::l.drop (i+1))=false:=fun h=>mxF_no hyt h _
  have hmx:∀z∈l.take (k+1),z∈l.take k∨z=y:=fun z hz=>by
   rw[List.take_add_one,hyk]at hz
   simpa using hz
  have hyes:mix2F (rulF t x) (rulF t y)=true→∀z∈l.take (k+1),mix2F (rulF t x) (rulF t z)=true:=fun h z hz=>by
   rcases hmx z hz with hz |rfl
   ·exact e1 z hz
   ·exact h
  generalize mix2F (rulF t x) (rulF t y)=bm at*
  obtain⟨u1,u2,u3,u4,u5,u6,u7,u8,u9,u10,u11,u12,u13,u14,hu,-⟩:=rul_lit (rulF t x)
  obtain⟨v1,v2,v3,v4,v5,v6,v7,v8,v9,v10,v11,v12,v13,v14,hv,-⟩:=rul_lit (rulF t y)
  rw[hu]at crx cm
  rw[hv]at cry cm
  simp only[Prt.enc]at crx cry
  rcases h with ⟨-,rfl⟩ | ⟨lx,rfl,hk0⟩ | ⟨kk,rfl,hk0⟩
  ·cases hx
  all_goals
   cases bm
   ·rw[hno rfl]at e0
    subst e0
    simp(maxSteps:=1000000)(disch:=omega)only[push_cast,decide_not,decide_eq_true_eq,decide_eq_false_iff_not,bne_eq_false_iff_eq,beq_eq_false_iff_ne,gt_iff_lt,ne_eq,not_true_eq_false,not_false_eq_true,hal,h1,h2,h5,h6,hk0,gR,hkt,hktc,hkl,hklc,hlt,hltc,hx,hyk,crx,cry,cm,Bool.not_false,Bool.false_eq_true,if_false,Prt.enc,false_and,false_or,or_false,true_and,Tryz.f91,↓WX,simprocAttr]
    exact⟨_,rfl⟩
   ·have hyes:=hyes rfl
    simp(maxSteps:=1000000)(disch:=omega)only[push_cast,decide_not,decide_eq_true_eq,decide_eq_false_iff_not,bne_eq_false_iff_eq,beq_eq_false_iff_ne,gt_iff_lt,ne_eq,not_true_eq_false,not_false_eq_true,hal,h1,h2,h5,h6,hk0,gR,hkt,hktc,hkl,hklc,hlt,hltc,hx,hyk,crx,cry,cm,Bool.not_true,Prt.enc,wrap_ok,Int.natCast_add,Int.natCast_one,↓WX,simprocAttr]
    exact hyes
 clear hal h1 h2 a
 rintro a T ⟨⟨rfl,rfl⟩,hal,h2⟩
 simp(maxSteps:=1000000)(disch:=omega)only[push_cast,decide_not,decide_eq_true_eq,decide_eq_false_iff_not,bne_eq_false_iff_eq,beq_eq_false_iff_ne,gt_iff_lt,ne_eq,not_true_eq_false,not_false_eq_true,hal,h2,if_true,Tryz.f91,↓WX,simprocAttr]
 exact⟨_,rfl⟩
end
end Go.Proofs.YtaklebjoenophaaGreat.Dm
