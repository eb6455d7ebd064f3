/-
  The reference's miles of a way, and its surcharge: they answer; links of a routing.
  Whether a routing allows a way: the reference answers; the miles that a fare allows.
  The reference's cities of a way: a list.
  What a passenger pays by a rule: the reference answers.
-/
import Derived.Test.YtaklebjoenophaaGreatPoK
set_option linter.unusedSimpArgs false
set_option linter.unusedVariables false
namespace Go.Proofs.YtaklebjoenophaaGreat.Dm
open Go Gw
set_option linter.unusedSimpArgs false
set_option linter.unusedSimpArgs false
section
variable {n : Nat}
set_option maxHeartbeats 8000000 in
set_option maxRecDepth 100000 in
theorem Way06_c (p:Plc) (hpa:p.aps.length≤1048576) (hpd:p.dts.length≤20) (hn:50000010≤n) (l:List ByteArray) (lx:Bool) (hl:l.length≤1048576):∃q e:Int,∀st S,callD E (dcall E n) st S 141 [.agg p.enc,.sl 1 (l.map Cnd.encT) lx]=some (.tup [.int .i64 q,.int .i64 e],S):=by
 obtain⟨m,rfl⟩:∃m,n=m+1:=⟨n-1,by omega⟩
 have hp:=Plc_pure p
 obtain⟨fq,fe,hf⟩:∃fq fe:ByteArray→ByteArray→Int,∀(s t:ByteArray) st S,callD E (dcall E m) st S 192 [.agg p.enc,.str s,.str t]=some (.tup [.int .i64 (fq s t),.int .i64 (fe s t)],S):=
  ⟨fun s t=>(Miles06_c (n:=m) p hpa hpd (by omega) s t).choose,fun s t=>(Miles06_c (n:=m) p hpa hpd (by omega) s t).choose_spec.choose,fun s t=>(Miles06_c (n:=m) p hpa hpd (by omega) s t).choose_spec.choose_spec⟩
 simp only[Plc.enc]at hp hf ⊢
 have:WO (dcall E (m+1) 141 [.agg [.sl 5 (p.aps.map Apt.enc) p.apsx,.sl 3 (p.dts.map Dst.enc) p.dtsx],.sl 1 (l.map Cnd.encT) lx] []) fun r T=>∃q e:Int,r=.tup [.int .i64 q,.int .i64 e]:=by
  refine wo_dcall Tryz.func141 rfl (by decide) rfl 38 rfl (fun a hal ha=>?_)
  have h0:a[0]? =some (.agg [.sl 5 (p.aps.map Apt.enc) p.apsx,.sl 3 (p.dts.map Dst.enc) p.dtsx]):=ha 0 (by simp)
  have h1:a[1]? =some (.sl 1 (l.map Cnd.encT) lx):=ha 1 (by simp)
  clear ha
  simp(maxSteps:=1000000)(disch:=omega)only[push_cast,decide_not,decide_eq_true_eq,decide_eq_false_iff_not,bne_eq_false_iff_eq,beq_eq_false_iff_ne,gt_iff_lt,ne_eq,not_true_eq_false,not_false_eq_true,hal,h0,h1,↓WX,simprocAttr]
  refine wl_loop (fun i a T=>(T=[Ob.row 2 [[.sl 5 (p.aps.map Apt.enc) p.apsx,.sl 3 (p.dts.map Dst.enc) p.dtsx]]]∧∃z:Int,a[6]? =some (.int .i64 z))∧a.length=38∧a[1]? =some (.sl 1 (l.map Cnd.encT) lx)∧a[2]? =some (.loc 0 0 0)∧a[7]? =some (.int .i64 i)) l.length ?_ (by omega) ?_
  ·simp(maxSteps:=1000000)(disch:=omega)only[push_cast,decide_not,decide_eq_true_eq,decide_eq_false_iff_not,bne_eq_false_iff_eq,beq_eq_false_iff_ne,gt_iff_lt,ne_eq,not_true_eq_false,not_false_eq_true,hal,h0,h1,Int.natCast_zero,↓WX,simprocAttr]
   exact⟨_,rfl⟩
  clear hal h0 h1 a
  rintro i a T hi ⟨⟨rfl,z,h6⟩,hal,h1,h2,h7⟩
  have hge:(0≤(i:Int)+1)=True:=eq_true (by omega)
  by_cases c:(i:Int)+1<l.length
  case neg=>
   simp(maxSteps:=1000000)(disch:=omega)only[push_cast,decide_not,decide_eq_true_eq,decide_eq_false_iff_not,bne_eq_false_iff_eq,beq_eq_false_iff_ne,gt_iff_lt,ne_eq,not_true_eq_false,not_false_eq_true,hal,h1,h2,h6,h7,c,wrap_ok,Tryz.f141,↓WX,simprocAttr]
   exact⟨_,_,rfl⟩
  have hlt:i<l.length:=by omega
  have hlt1:i+1<l.length:=by omega
  obtain⟨x,hx⟩:∃x,l[i]? =some x:=⟨l[i],by simp⟩
  obtain⟨y,hy⟩:∃y,l[i+1]? =some y:=⟨l[i+1],by simp⟩
  cases e:decide (fe x y=0)
  ·simp(maxSteps:=1000000)(disch:=omega)only[push_cast,decide_not,decide_eq_true_eq,decide_eq_false_iff_not,bne_eq_false_iff_eq,beq_eq_false_iff_ne,gt_iff_lt,ne_eq,not_true_eq_false,not_false_eq_true,hal,h1,h2,h6,h7,c,hlt,hlt1,hx,hy,hf,hge,e,Bool.not_false,Cnd.encT,wrap_ok,show ((i:Int)+1).toNat=i+1 by omega,Tryz.f141,↓WX,simprocAttr]
   exact⟨_,_,rfl⟩
  ·simp(maxSteps:=1000000)(disch:=omega)only[push_cast,decide_not,decide_eq_true_eq,decide_eq_false_iff_not,bne_eq_false_iff_eq,beq_eq_false_iff_ne,gt_iff_lt,ne_eq,not_true_eq_false,not_false_eq_true,hal,h1,h2,h6,h7,c,hlt,hlt1,hx,hy,hf,hge,e,Bool.not_true,Cnd.encT,wrap_ok,show ((i:Int)+1).toNat=i+1 by omega,Int.natCast_add,Int.natCast_one,↓WX,simprocAttr]
   exact⟨_,rfl⟩
 obtain⟨_,T,ho,q,e,rfl⟩:=this
 exact⟨q,e,fun st S=>callD_pure rfl (by simp only[pureL_cons,pureL_nil,D.pure,Bool.and_true,Cnd.encT_pure]at hp ⊢;exact hp) ho rfl⟩
set_option maxHeartbeats 8000000 in
set_option maxRecDepth 100000 in
theorem Of23_c (p:Plc) (hpa:p.aps.length≤1048576) (hpd:p.dts.length≤20) (hn:50000020≤n) (l:List ByteArray) (lx:Bool) (hl:l.length≤1048576) (k:Int):∃q e:Int,∀st S,callD E (dcall E n) st S 87 [.agg p.enc,.sl 1 (l.map Cnd.encT) lx,.int .i64 k]=some (.tup [.int .i64 q,.int .i64 e],S):=by
 obtain⟨m,rfl⟩:∃m,n=m+1:=⟨n-1,by omega⟩
 have hp:=Plc_pure p
 obtain⟨w,we,hw⟩:=Way06_c (n:=m) p hpa hpd (by omega) l lx hl
 obtain⟨v,ve,hv⟩:=level23_c (n:=m) (by omega) w k
 simp only[Plc.enc]at hp hw ⊢
 have:WO (dcall E (m+1) 87 [.agg [.sl 5 (p.aps.map Apt.enc) p.apsx,.sl 3 (p.dts.map Dst.enc) p.dtsx],.sl 1 (l.map Cnd.encT) lx,.int .i64 k] []) fun r T=>∃q e:Int,r=.tup [.int .i64 q,.int .i64 e]:=by
  refine wo_dcall Tryz.func87 rfl (by decide) rfl 24 rfl (fun a hal ha=>?_)
  have h0:a[0]? =some (.agg [.sl 5 (p.aps.map Apt.enc) p.apsx,.sl 3 (p.dts.map Dst.enc) p.dtsx]):=ha 0 (by simp)
  have h1:a[1]? =some (.sl 1 (l.map Cnd.encT) lx):=ha 1 (by simp)
  have h2:a[2]? =some (.int .i64 k):=ha 2 (by simp)
  clear ha
  cases e:decide (we=0)
  ·simp(maxSteps:=1000000)(disch:=omega)only[push_cast,decide_not,decide_eq_true_eq,decide_eq_false_iff_not,bne_eq_false_iff_eq,beq_eq_false_iff_ne,gt_iff_lt,ne_eq,not_true_eq_false,not_false_eq_true,hal,h0,h1,h2,hw,e,Bool.not_false,Tryz.f87,↓WX,simprocAttr]
   exact⟨_,_,rfl⟩
  ·simp(maxSteps:=1000000)(disch:=omega)only[push_cast,decide_not,decide_eq_true_eq,decide_eq_false_iff_not,bne_eq_false_iff_eq,beq_eq_false_iff_ne,gt_iff_lt,ne_eq,not_true_eq_false,not_false_eq_true,hal,h0,h1,h2,hw,hv,e,Bool.not_true,Tryz.f87,↓WX,simprocAttr]
   exact⟨_,_,rfl⟩
 obtain⟨_,T,ho,q,e,rfl⟩:=this
 exact⟨q,e,fun st S=>callD_pure rfl (by simp only[pureL_cons,pureL_nil,D.pure,Bool.and_true,Cnd.encT_pure]at hp ⊢;exact hp) ho rfl⟩
end
end Go.Proofs.YtaklebjoenophaaGreat.Dm
namespace Go.Proofs.YtaklebjoenophaaGreat.Dm
open Go Gw
set_option linter.unusedSimpArgs false
set_option linter.unusedSimpArgs false
section
variable {n : Nat}
set_option maxHeartbeats 8000000 in
set_option maxRecDepth 100000 in
theorem allows22_c (o:Option Rou) (ho:∀r,o=some r→r.links.length≤1048576) (c:List ByteArray) (cx:Bool) (hc:c.length≤1048576) (hn:1048590≤n):∃b:Bool,∀st S,callD E (dcall E n) st S 85 [rouD o,.sl 1 (c.map Cnd.encT) cx]=some (.bool b,S):=by
 obtain⟨m,rfl⟩:∃m,n=m+1:=⟨n-1,by omega⟩
 have:WO (dcall E (m+1) 85 [rouD o,.sl 1 (c.map Cnd.encT) cx] []) fun r T=>∃b:Bool,r=.bool b:=by
  cases o with
  |none=>
   simp only[rouD]
   refine wo_dcall Tryz.func85 rfl (by decide) rfl 31 rfl (fun a hal ha=>?_)
   have h0:a[0]? =some (.agg [.int .i64 0,.nils,.int .i64 0]):=ha 0 (by simp)
   have h1:a[1]? =some (.sl 1 (c.map Cnd.encT) cx):=ha 1 (by simp)
   clear ha
   simp(maxSteps:=1000000)(disch:=omega)only[push_cast,decide_not,decide_eq_true_eq,decide_eq_false_iff_not,bne_eq_false_iff_eq,beq_eq_false_iff_ne,gt_iff_lt,ne_eq,not_true_eq_false,not_false_eq_true,hal,h0,h1,↓WX,simprocAttr]
   refine wl_loop (fun i a T=>T=[Ob.row 3 [[.int .i64 0,.nils,.int .i64 0]]]∧a.length=31∧a[1]? =some (.sl 1 (c.map Cnd.encT) cx)∧a[2]? =some (.loc 0 0 0)∧a[5]? =some (.int .i64 1)) 0 ?_ (by omega) ?_
   ·simp(maxSteps:=1000000)(disch:=omega)only[push_cast,decide_not,decide_eq_true_eq,decide_eq_false_iff_not,bne_eq_false_iff_eq,beq_eq_false_iff_ne,gt_iff_lt,ne_eq,not_true_eq_false,not_false_eq_true,hal,h0,h1,↓WX,simprocAttr]
   clear hal h0 h1 a
   rintro i a T hi ⟨rfl,hal,h1,h2,h5⟩
   by_cases q:(1:Int)<c.length
   ·simp(maxSteps:=1000000)(disch:=omega)only[push_cast,decide_not,decide_eq_true_eq,decide_eq_false_iff_not,bne_eq_false_iff_eq,beq_eq_false_iff_ne,gt_iff_lt,ne_eq,not_true_eq_false,not_false_eq_true,hal,h1,h2,h5,q,Int.lt_irrefl,Tryz.f85,↓WX,simprocAttr]
    exact⟨_,rfl⟩
   ·simp(maxSteps:=1000000)(disch:=omega)only[push_cast,decide_not,decide_eq_true_eq,decide_eq_false_iff_not,bne_eq_false_iff_eq,beq_eq_false_iff_ne,gt_iff_lt,ne_eq,not_true_eq_false,not_false_eq_true,hal,h1,h2,h5,q,Tryz.f85,↓WX,simprocAttr]
    exact⟨_,rfl⟩
  |some r=>
   have hrl:=ho r rfl
   obtain⟨fl,hfl⟩:∃fl:ByteArray→ByteArray→Int,∀(s t:ByteArray) st S,callD E (dcall E m) st S 111 [.sl 2 (r.links.map encLk) r.linksx,.str s,.str t]=some (.int .i64 (fl s t),S):=
    ⟨fun s t=>(Link22_c (n:=m) (lx:=r.linksx) hrl (by omega) s t).choose,fun s t=>(Link22_c (n:=m) (lx:=r.linksx) hrl (by omega) s t).choose_spec⟩
   simp only[rouD,Rou.enc]
   refine wo_dcall Tryz.func85 rfl (by decide) rfl 31 rfl (fun a hal ha=>?_)
   have h0:a[0]? =some (.agg [.int .i64 r.num,.sl 2 (r.links.map encLk) r.linksx,.int .i64 r.miles]):=ha 0 (by simp)
   have h1:a[1]? =some (.sl 1 (c.map Cnd.encT) cx):=ha 1 (by simp)
   clear ha
   simp(maxSteps:=1000000)(disch:=omega)only[push_cast,decide_not,decide_eq_true_eq,decide_eq_false_iff_not,bne_eq_false_iff_eq,beq_eq_false_iff_ne,gt_iff_lt,ne_eq,not_true_eq_false,not_false_eq_true,hal,h0,h1,↓WX,simprocAttr]
   refine wl_loop (fun i a T=>(T=[Ob.row 3 [[.int .i64 r.num,.sl 2 (r.links.map encLk) r.linksx,.int .i64 r.miles]]]∧∃j:Int,a[5]? =some (.int .i64 j)∧j=(i:Int)+1)∧a.length=31∧a[1]? =some (.sl 1 (c.map Cnd.encT) cx)∧a[2]? =some (.loc 0 0 0)) c.length ?_ (by omega) ?_
   ·simp(maxSteps:=1000000)(disch:=omega)only[push_cast,decide_not,decide_eq_true_eq,decide_eq_false_iff_not,bne_eq_false_iff_eq,beq_eq_false_iff_ne,gt_iff_lt,ne_eq,not_true_eq_false,not_false_eq_true,hal,h0,h1,Int.natCast_zero,↓WX,simprocAttr]
    exact⟨_,rfl,rfl⟩
   clear hal h0 h1 a
   rintro i a T hi ⟨⟨rfl,j,h5,hj⟩,hal,h1,h2⟩
   by_cases q:j<c.length
   case neg=>
    simp(maxSteps:=1000000)(disch:=omega)only[push_cast,decide_not,decide_eq_true_eq,decide_eq_false_iff_not,bne_eq_false_iff_eq,beq_eq_false_iff_ne,gt_iff_lt,ne_eq,not_true_eq_false,not_false_eq_true,hal,h1,h2,h5,q,Tryz.f85,↓WX,simprocAttr]
    exact⟨_,rfl⟩
   by_cases q2:(0:Int)<r.links.length
   case neg=>
    simp(maxSteps:=1000000)(disch:=omega)only[push_cast,decide_not,decide_eq_true_eq,decide_eq_false_iff_not,bne_eq_false_iff_eq,beq_eq_false_iff_ne,gt_iff_lt,ne_eq,not_true_eq_false,not_false_eq_true,hal,h1,h2,h5,q,q2,Tryz.f85,↓WX,simprocAttr]
    exact⟨_,rfl⟩
   have hlt:i<c.length:=by omega
   have hlt1:i+1<c.length:=by omega
   obtain⟨x,hx⟩:∃x,c[i]? =some x:=⟨c[i],by simp⟩
   obtain⟨y,hy⟩:∃y,c[i+1]? =some y:=⟨c[i+1],by simp⟩
   have hj0:j-1=(i:Int):=by omega
   have hjn:j.toNat=i+1:=by omega
   have hge:(0≤j)=True:=eq_true (by omega)
   have hwj:IntKind.i64.wrap (j-1)=(i:Int):=by rw[hj0];exact wrap_ok (by omega) (by omega)
   cases e:decide (fl x y<0)
   ·simp(maxSteps:=1000000)(disch:=omega)only[push_cast,decide_not,decide_eq_true_eq,decide_eq_false_iff_not,bne_eq_false_iff_eq,beq_eq_false_iff_ne,gt_iff_lt,ne_eq,not_true_eq_false,not_false_eq_true,hal,h1,h2,h5,q,q2,hlt,hx,hy,hwj,hjn,hge,hfl,e,Cnd.encT,wrap_ok,↓WX,simprocAttr]
    exact⟨_,rfl,by push_cast;omega⟩
   ·simp(maxSteps:=1000000)(disch:=omega)only[push_cast,decide_not,decide_eq_true_eq,decide_eq_false_iff_not,bne_eq_false_iff_eq,beq_eq_false_iff_ne,gt_iff_lt,ne_eq,not_true_eq_false,not_false_eq_true,hal,h1,h2,h5,q,q2,hlt,hx,hy,hwj,hjn,hge,hfl,e,Cnd.encT,Tryz.f85,↓WX,simprocAttr]
    exact⟨_,rfl⟩
 obtain⟨_,T,hr,q,rfl⟩:=this
 exact⟨q,fun st S=>callD_pure rfl (by simp only[pureL_cons,pureL_nil,rouD_pure,D.pure,Cnd.encT_pure,Bool.and_true]) hr rfl⟩
end
end Go.Proofs.YtaklebjoenophaaGreat.Dm
namespace Go.Proofs.YtaklebjoenophaaGreat.Dm
open Go Gw
set_option linter.unusedSimpArgs false
set_option linter.unusedSimpArgs false
def citF (p:Plc) (l:List Wnt):List ByteArray:=match l with
 | []=>[]
 |w::ws=>cityS p w.fr::(w::ws).map fun w=>cityS p w.to
theorem citF_add (p:Plc) {l:List Wnt} (x:Wnt) (h:l≠[]):citF p (l++[x])=citF p l++[cityS p x.to]:=by
 cases l with
 |nil=>exact (h rfl).elim
 |cons w ws=>simp only[citF,List.cons_append,List.map_cons,List.map_append,List.map_nil]
theorem citF_len (p:Plc) {l:List Wnt} (h:l≠[]):(citF p l).length=l.length+1:=by
 cases l with
 |nil=>exact (h rfl).elim
 |cons w ws=>simp only[citF,List.length_cons,List.length_map]
section
variable {n : Nat}
set_option maxHeartbeats 16000000 in
set_option maxRecDepth 100000 in
theorem Cities25_d (p:Plc) (hpa:p.aps.length≤1048576) (l:List Wnt) (lx:Bool) (hl:l.length≤1000) (hn:1048590≤n):
  WO (dcall E (n+1) 80 [.agg p.enc,.sl 8 (l.map Wnt.enc) lx] []) fun r T=>∃cs:List ByteArray,GL 1 Cnd.encT T r cs∧cs=citF p l:=by
 obtain⟨fc,hfc,hf⟩:∃fc:ByteArray→ByteArray,fc=cityS p∧∀s st S,callD E (dcall E n) st S 136 [.agg p.enc,.str s]=some (.str (fc s),S):=⟨cityS p,rfl,fun s st S=>rCity_c (by omega) (by omega) st S⟩
 simp only[Plc.enc]at hf ⊢
 have ap:∀ {T:List Ob} {d:D} {cs:List ByteArray},GL 1 Cnd.encT T d cs→cs.length≤100000→∀s,∃S',dAppend Tryz.prog T 67 67 d (.sl 1 [[.str s]] true)=some (.os T.length 0 (cs.length+1) false,S')∧GL 1 Cnd.encT S' (.os T.length 0 (cs.length+1) false) (cs++[s])∧S'.length=T.length+1∧(∀k o,(∀n,d=.os k 0 n false→False)→T[k]? =some o→S'[k]? =some o):=fun h hc s=>by
  obtain⟨S',a1,a2,a3,a4,-⟩:=app_gl (t:=67) (e:=9) (z:=.str (ByteArray.mk #[])) (n:=0) (by kernel_rfl) (by kernel_rfl) (by kernel_rfl) rfl (Nat.le_of_ble_eq_true (by kernel_rfl)) h hc s
  exact⟨S',a1,a2,a3,a4⟩
 refine wo_dcall Tryz.func80 rfl (by decide) rfl 38 rfl (fun a hal ha=>?_)
 have h0:a[0]? =some (.agg [.sl 5 (p.aps.map Apt.enc) p.apsx,.sl 3 (p.dts.map Dst.enc) p.dtsx]):=ha 0 (by simp)
 have h1:a[1]? =some (.sl 8 (l.map Wnt.enc) lx):=ha 1 (by simp)
 clear ha
 simp(maxSteps:=1000000)(disch:=omega)only[push_cast,decide_not,decide_eq_true_eq,decide_eq_false_iff_not,bne_eq_false_iff_eq,beq_eq_false_iff_ne,gt_iff_lt,ne_eq,not_true_eq_false,not_false_eq_true,hal,h0,h1,↓WX,simprocAttr]
 refine wl_loop (fun i a T=>(∃d cs,a[5]? =some d∧GL 1 Cnd.encT T d cs∧(∀n,d=.os 0 0 n false→False)∧cs=citF p (l.take i)∧T[0]? =some (Ob.row 2 [[.sl 5 (p.aps.map Apt.enc) p.apsx,.sl 3 (p.dts.map Dst.enc) p.dtsx]])∧1≤T.length)∧a.length=38∧a[1]? =some (.sl 8 (l.map Wnt.enc) lx)∧a[2]? =some (.loc 0 0 0)∧a[6]? =some (.int .i64 i)) l.length ?_ (by omega) ?_
 ·simp(maxSteps:=1000000)(disch:=omega)only[push_cast,decide_not,decide_eq_true_eq,decide_eq_false_iff_not,bne_eq_false_iff_eq,beq_eq_false_iff_ne,gt_iff_lt,ne_eq,not_true_eq_false,not_false_eq_true,hal,h0,h1,Int.natCast_zero,↓WX,simprocAttr]
  exact⟨_,[],rfl,GL.nil,fun n h=>(by cases h),rfl⟩
 clear hal h0 h1 a
 rintro i a T hi ⟨⟨d,cs,h5,hg,hd,hc0,hT,hTl⟩,hal,h1,h2,h6⟩
 rcases Nat.lt_or_eq_of_le hi with hlt |rfl
 case inr=>
  simp(maxSteps:=1000000)(disch:=omega)only[push_cast,decide_not,decide_eq_true_eq,decide_eq_false_iff_not,bne_eq_false_iff_eq,beq_eq_false_iff_ne,gt_iff_lt,ne_eq,not_true_eq_false,not_false_eq_true,hal,h1,h2,h5,h6,Int.lt_irrefl,Tryz.f80,↓WX,simprocAttr]
  exact⟨cs,hg,by rw[hc0,List.take_length]⟩
 have hltc:(i:Int)<l.length:=by omega
 obtain⟨x,hx⟩:∃x,l[i]? =some x:=⟨l[i],by simp⟩
 have hti:(l.take (i+1))=l.take i++[x]:=by rw[List.take_add_one,hx];rfl
 have hc1:i≠0→cs.length=i+1∧citF p (l.take (i+1))=cs++[cityS p x.to]:=fun e=>by
  have hne:l.take i≠[]:=fun h=>by have:=congrArg List.length h;rw[List.length_take,List.length_nil]at this;omega
  rw[hc0]
  refine⟨?_,by rw[hti,citF_add p x hne]⟩
  rw[citF_len p hne,List.length_take]
  omega
 have hc2:i=0→cs=[]∧citF p (l.take (i+1))=[cityS p x.fr]++[cityS p x.to]:=fun e=>by
  subst e
  refine⟨hc0,?_⟩
  rw[hti]
  rfl
 have hcl:cs.length≤2000:=by
  by_cases e:i=0
  ·rw[(hc2 e).1];exact Nat.zero_le _
  ·rw[(hc1 e).1];omega
 rw[←hfc]at hc1 hc2
 refine wc_scut (fun a V=>V=T∧a.length=38∧a[1]? =some (.sl 8 (l.map Wnt.enc) lx)∧a[2]? =some (.loc 0 0 0)∧a[5]? =some (d)∧a[6]? =some (.int .i64 i)) ?_ ?_
 ·simp(maxSteps:=1000000)(disch:=omega)only[push_cast,decide_not,decide_eq_true_eq,decide_eq_false_iff_not,bne_eq_false_iff_eq,beq_eq_false_iff_ne,gt_iff_lt,ne_eq,not_true_eq_false,not_false_eq_true,hal,h1,h2,h5,h6,hltc,↓WX,simprocAttr]
 clear hal h1 h2 h5 h6 a
 rintro a V ⟨rfl,hal,h1,h2,h5,h6⟩
 rw[wc_seq,wc_block]
 refine wc_scut (fun a T=>(∃d cs,a[5]? =some d∧GL 1 Cnd.encT T d cs∧(∀n,d=.os 0 0 n false→False)∧(cs.length=i+1∧citF p (l.take (i+1))=cs++[fc x.to])∧T[0]? =some (Ob.row 2 [[.sl 5 (p.aps.map Apt.enc) p.apsx,.sl 3 (p.dts.map Dst.enc) p.dtsx]])∧1≤T.length)∧a.length=38∧a[1]? =some (.sl 8 (l.map Wnt.enc) lx)∧a[2]? =some (.loc 0 0 0)∧a[6]? =some (.int .i64 i)) ?_ ?_
 ·by_cases e:i=0
  case neg=>
   have d1:decide ((i:Int)=0)=false:=decide_eq_false (by omega)
   simp(maxSteps:=1000000)(disch:=omega)only[push_cast,decide_not,decide_eq_true_eq,decide_eq_false_iff_not,bne_eq_false_iff_eq,beq_eq_false_iff_ne,gt_iff_lt,ne_eq,not_true_eq_false,not_false_eq_true,hal,h1,h2,h5,h6,d1,↓WX,simprocAttr]
   exact⟨_,cs,rfl,hg,hd,hc1 e,hT,hTl⟩
  have d1:decide ((i:Int)=0)=true:=decide_eq_true (by omega)
  obtain⟨S',a1,a2,a3,a4⟩:=ap hg (by omega) (fc x.fr)
  have hT':=a4 _ _ hd hT
  simp(maxSteps:=1000000)(disch:=omega)only[push_cast,decide_not,decide_eq_true_eq,decide_eq_false_iff_not,bne_eq_false_iff_eq,beq_eq_false_iff_ne,gt_iff_lt,ne_eq,not_true_eq_false,not_false_eq_true,hal,h1,h2,h5,h6,d1,hT,hlt,hx,hf,a1,Wnt.enc,↓WX,simprocAttr]
  exact⟨_,_,rfl,a2,fun n h=>by have:=(D.os.inj h).1;omega,⟨by rw[List.length_append,(hc2 e).1,e];rfl,by rw[(hc2 e).1];exact (hc2 e).2⟩,hT',by omega⟩
 clear hal h1 h2 h5 h6 a
 clear hg hd hc0 hc1 hc2 hT hTl hcl
 rintro a T ⟨⟨d,cs,h5,hg,hd,⟨hc,hcc⟩,hT,hTl⟩,hal,h1,h2,h6⟩
 obtain⟨S',a1,a2,a3,a4⟩:=ap hg (by omega) (fc x.to)
 have hT':=a4 _ _ hd hT
 simp(maxSteps:=1000000)(disch:=omega)only[push_cast,decide_not,decide_eq_true_eq,decide_eq_false_iff_not,bne_eq_false_iff_eq,beq_eq_false_iff_ne,gt_iff_lt,ne_eq,not_true_eq_false,not_false_eq_true,hal,h1,h2,h5,h6,hT,hlt,hx,hf,a1,Wnt.enc,wrap_ok,Int.natCast_add,Int.natCast_one,↓WX,simprocAttr]
 exact⟨_,_,rfl,a2,fun n h=>by have:=(D.os.inj h).1;omega,hcc.symm,hT',by omega⟩
theorem Cities25_x (p:Plc) (hpa:p.aps.length≤1048576) (l:List Wnt) (lx:Bool) (hl:l.length≤1000) (hn:1048600≤n):∃d,FLs 1 Cnd.encT d (citF p l)∧∀st S,callD E (dcall E n) st S 80 [.agg p.enc,.sl 8 (l.map Wnt.enc) lx]=some (d,S):=by
 obtain⟨m,rfl⟩:∃m,n=m+1:=⟨n-1,by omega⟩
 obtain⟨d,T,ho,cs,hg,rfl⟩:=Cities25_d (n:=m) p hpa l lx hl (by omega)
 obtain⟨d',f,hf⟩:=hg.fls (Cnd.encT_pure _)
 exact⟨d',hf,fun st S=>callD_pure rfl (by simp only[pureL_cons,pureL_nil,D.pure,Plc_pure,Wnts_pure,Bool.and_true]) ho f⟩
theorem Cities25_c (p:Plc) (hpa:p.aps.length≤1048576) (l:List Wnt) (lx:Bool) (hl:l.length≤1000) (hl0:l≠[]) (hn:1048600≤n):∃(cs:List ByteArray) (cx:Bool),cs=citF p l∧cs.length=l.length+1∧∀st S,callD E (dcall E n) st S 80 [.agg p.enc,.sl 8 (l.map Wnt.enc) lx]=some (.sl 1 (cs.map Cnd.encT) cx,S):=by
 obtain⟨d,hf,hc⟩:=Cities25_x (n:=n) p hpa l lx hl hn
 have hlen:=citF_len p hl0
 rcases hf with ⟨-,h⟩ | ⟨cx,rfl⟩
 ·rw[h]at hlen
  cases hlen
 ·exact⟨_,cx,rfl,hlen,hc⟩
end
end Go.Proofs.YtaklebjoenophaaGreat.Dm
namespace Go.Proofs.YtaklebjoenophaaGreat.Dm
open Go Gw
set_option linter.unusedSimpArgs false
set_option linter.unusedSimpArgs false
section
variable {n : Nat}
set_option maxHeartbeats 8000000 in
set_option maxRecDepth 100000 in
theorem pay21_c (o:Option Rul) (ho:∀r,o=some r→r.pcs.length≤1048576) (s:ByteArray) (v:Int) (hn:1048590≤n):∃q e:Int,∀st S,callD E (dcall E n) st S 89 [rulD o,.str s,.int .i64 v]=some (.tup [.int .i64 q,.int .i64 e],S):=by
 obtain⟨m,rfl⟩:∃m,n=m+1:=⟨n-1,by omega⟩
 obtain⟨fq,fe,hf⟩:∃fq fe:Int→Int,∀(y:Int) st S,callD E (dcall E m) st S 143 [.int .i64 v,.int .i64 y]=some (.tup [.int .i64 (fq y),.int .i64 (fe y)],S):=
  ⟨fun y=>(percent02_c (n:=m) (by omega) v y).choose,fun y=>(percent02_c (n:=m) (by omega) v y).choose_spec.choose,fun y=>(percent02_c (n:=m) (by omega) v y).choose_spec.choose_spec⟩
 have:WO (dcall E (m+1) 89 [rulD o,.str s,.int .i64 v] []) fun r T=>∃p q:Int,r=.tup [.int .i64 p,.int .i64 q]:=by
  cases o with
  |none=>
   simp only[rulD]
   refine wo_dcall Tryz.func89 rfl (by decide) rfl 39 rfl (fun a hal ha=>?_)
   have h0:a[0]? =some (.agg [.int .i64 0,.int .i64 0,.nils,.int .i64 0,.int .i64 0,.int .i64 0,.int .i64 0,.int .i64 0,.nils,.nils,.int .i64 0,.int .i64 0,.int .i64 0,.int .i64 0,.nils]):=ha 0 (by simp)
   have h1:a[1]? =some (.str s):=ha 1 (by simp)
   have h2:a[2]? =some (.int .i64 v):=ha 2 (by simp)
   clear ha
   simp(maxSteps:=1000000)(disch:=omega)only[push_cast,decide_not,decide_eq_true_eq,decide_eq_false_iff_not,bne_eq_false_iff_eq,beq_eq_false_iff_ne,gt_iff_lt,ne_eq,not_true_eq_false,not_false_eq_true,hal,h0,h1,h2,↓WX,simprocAttr]
   refine wl_loop (fun i a T=>T=[Ob.row 15 [[.int .i64 0,.int .i64 0,.nils,.int .i64 0,.int .i64 0,.int .i64 0,.int .i64 0,.int .i64 0,.nils,.nils,.int .i64 0,.int .i64 0,.int .i64 0,.int .i64 0,.nils]]]∧a.length=39∧a[1]? =some (.str s)∧a[2]? =some (.int .i64 v)∧a[3]? =some (.loc 0 0 0)∧a[8]? =some (.int .i64 0)) 0 ?_ (by omega) ?_
   ·simp(maxSteps:=1000000)(disch:=omega)only[push_cast,decide_not,decide_eq_true_eq,decide_eq_false_iff_not,bne_eq_false_iff_eq,beq_eq_false_iff_ne,gt_iff_lt,ne_eq,not_true_eq_false,not_false_eq_true,hal,h0,h1,h2,↓WX,simprocAttr]
   clear hal h0 h1 h2 a
   rintro i a T hi ⟨rfl,hal,h1,h2,h3,h8⟩
   simp(maxSteps:=1000000)(disch:=omega)only[push_cast,decide_not,decide_eq_true_eq,decide_eq_false_iff_not,bne_eq_false_iff_eq,beq_eq_false_iff_ne,gt_iff_lt,ne_eq,not_true_eq_false,not_false_eq_true,hal,h1,h2,h3,h8,Int.lt_irrefl,hf,Tryz.f89,↓WX,simprocAttr]
   exact⟨_,_,rfl⟩
  |some r=>
   have hl:=ho r rfl
   obtain⟨w,hw⟩:∃w,r.when=w:=⟨_,rfl⟩
   have hxe:Rul.enc r=.int .i64 r.num::(w.enc++[.sl 1 (r.comb.map encZ) r.combx,.int .i64 r.mins,.int .i64 r.maxs,.int .i64 r.chg,.int .i64 r.ref,.sl 2 (r.pcs.map encPc) r.pcx]):=by rw[←hw];rfl
   cases w with |mk k' l' lx' u' v' pf' pt' pd' t' tx'=>?_
   simp only[Cnd.enc,List.cons_append,List.nil_append]at hxe
   simp only[rulD]
   obtain⟨B,hB⟩:∃B:Ob,B=Ob.row 15 [r.enc]:=⟨_,rfl⟩
   refine wo_dcall Tryz.func89 rfl (by decide) rfl 39 rfl (fun a hal ha=>?_)
   have h0:a[0]? =some (.agg r.enc):=ha 0 (by simp)
   have h1:a[1]? =some (.str s):=ha 1 (by simp)
   have h2:a[2]? =some (.int .i64 v):=ha 2 (by simp)
   clear ha
   rw[hxe]at h0 hB

   refine wc_scut (fun a V=>V=[B]∧a.length=39∧a[1]? =some (.str s)∧a[2]? =some (.int .i64 v)∧a[3]? =some (.loc 0 0 0)) ?_ ?_
   ·simp(maxSteps:=1000000)(disch:=omega)only[push_cast,decide_not,decide_eq_true_eq,decide_eq_false_iff_not,bne_eq_false_iff_eq,beq_eq_false_iff_ne,gt_iff_lt,ne_eq,not_true_eq_false,not_false_eq_true,hal,h0,h1,h2,↓WX,simprocAttr]
    rw[hB]
   clear hal h0 h1 h2 a
   rintro a V ⟨hV,hal,h1,h2,h3⟩
   have g0:V[0]? =some B:=by rw[hV];rfl
   rw[hB]at g0
   clear hV hB
   simp(maxSteps:=1000000)(disch:=omega)only[push_cast,decide_not,decide_eq_true_eq,decide_eq_false_iff_not,bne_eq_false_iff_eq,beq_eq_false_iff_ne,gt_iff_lt,ne_eq,not_true_eq_false,not_false_eq_true,hal,h1,h2,h3,↓WX,simprocAttr]
   refine wl_loop (fun i a T=>T=V∧a.length=39∧a[1]? =some (.str s)∧a[2]? =some (.int .i64 v)∧a[3]? =some (.loc 0 0 0)∧a[8]? =some (.int .i64 i)) r.pcs.length ?_ (by omega) ?_
   ·simp(maxSteps:=1000000)(disch:=omega)only[push_cast,decide_not,decide_eq_true_eq,decide_eq_false_iff_not,bne_eq_false_iff_eq,beq_eq_false_iff_ne,gt_iff_lt,ne_eq,not_true_eq_false,not_false_eq_true,hal,h1,h2,h3,Int.natCast_zero,↓WX,simprocAttr]
   clear hal h1 h2 h3 a
   rintro i a T hi ⟨rfl,hal,h1,h2,h3,h8⟩
   rcases Nat.lt_or_eq_of_le hi with hlt |he
   case inr=>
    subst he
    simp(maxSteps:=1000000)(disch:=omega)only[push_cast,decide_not,decide_eq_true_eq,decide_eq_false_iff_not,bne_eq_false_iff_eq,beq_eq_false_iff_ne,gt_iff_lt,ne_eq,not_true_eq_false,not_false_eq_true,hal,h1,h2,h3,h8,g0,Int.lt_irrefl,hf,Tryz.f89,↓WX,simprocAttr]
    exact⟨_,_,rfl⟩
   have hltc:(i:Int)<r.pcs.length:=by omega
   obtain⟨x,hx⟩:∃x,r.pcs[i]? =some x:=⟨r.pcs[i],by simp⟩
   cases e1:decide (x.1=s)
   ·simp(maxSteps:=1000000)(disch:=omega)only[push_cast,decide_not,decide_eq_true_eq,decide_eq_false_iff_not,bne_eq_false_iff_eq,beq_eq_false_iff_ne,gt_iff_lt,ne_eq,not_true_eq_false,not_false_eq_true,hal,h1,h2,h3,h8,g0,hltc,hlt,hx,e1,str_eq,encPc,wrap_ok,Int.natCast_add,Int.natCast_one,↓WX,simprocAttr]
   ·simp(maxSteps:=1000000)(disch:=omega)only[push_cast,decide_not,decide_eq_true_eq,decide_eq_false_iff_not,bne_eq_false_iff_eq,beq_eq_false_iff_ne,gt_iff_lt,ne_eq,not_true_eq_false,not_false_eq_true,hal,h1,h2,h3,h8,g0,hltc,hlt,hx,e1,hf,str_eq,encPc,Tryz.f89,↓WX,simprocAttr]
    exact⟨_,_,rfl⟩
 obtain⟨_,T,hr,q,e,rfl⟩:=this
 exact⟨q,e,fun st S=>callD_pure rfl (by simp only[pureL_cons,pureL_nil,rulD_pure,D.pure,Bool.and_true]) hr rfl⟩
end
end Go.Proofs.YtaklebjoenophaaGreat.Dm
