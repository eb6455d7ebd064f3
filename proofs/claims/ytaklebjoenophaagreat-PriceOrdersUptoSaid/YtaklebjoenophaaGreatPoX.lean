/-
  Round trips of a journey: the reference, exactly.
  The pairs of a journey: the reference, exactly.
-/
import Derived.Test.YtaklebjoenophaaGreatPoW
set_option linter.unusedSimpArgs false
set_option linter.unusedVariables false
namespace Go.Proofs.YtaklebjoenophaaGreat.Dm
open Go Gw
set_option linter.unusedSimpArgs false
set_option linter.unusedSimpArgs false
def LQ {α:Type} (sz:Nat) (enc:α→List D) (S:List Ob) (d:D) (l:List α):Prop:=(d=.nils∧l=[])∨(∃x,d=.sl sz (l.map enc) x∧∀J:List Ob,(J++S)[(J++S).length]? =none)∨∃k,d=.os k 0 l.length false∧∀J,(S++J)[k]? =some (.row sz (l.map enc))
section
variable {α : Type} {sz : Nat} {enc : α → List D} {S T : List Ob} {d : D} {l : List α}
theorem FLs.lq (h:FLs sz enc d l):LQ sz enc S d l:=h.elim .inl fun ⟨x,h⟩=>.inr (.inl ⟨x,h,fun _=>List.getElem?_eq_none (Nat.le_refl _)⟩)
theorem GL.lq (h:GL sz enc S d l):LQ sz enc S d l:=h.elim .inl fun ⟨k,h,g⟩=>.inr (.inr ⟨k,h,fun _=>get_old g⟩)
theorem LQ.ext (h:LQ sz enc S d l) (g:ExtS S T):LQ sz enc T d l:=by
 rcases h with h | ⟨x,h,-⟩ | ⟨k,h,hk⟩
 ·exact .inl h
 ·exact FLs.lq (.inr ⟨x,h⟩)
 ·exact .inr (.inr ⟨k,h,fun J=>get_old (g _ _ (by have:=hk [];rwa [List.append_nil]at this))⟩)
theorem lq_len {t e:TypeId} (ht:Tryz.prog.underlying t=some (.slice e)) (h:LQ sz enc S d l) (T:List Ob):dLen Tryz.prog T t d=some (.int .i64 l.length):=by
 unfold dLen
 rw[ht]
 rcases h with ⟨rfl,rfl⟩ | ⟨x,rfl,-⟩ | ⟨k,rfl,-⟩
 ·rfl
 ·dsimp only
  rw[List.length_map]
 ·rfl
theorem LQ.one (h:LQ sz enc S d l):d.one=true:=by
 rcases h with ⟨rfl,-⟩ | ⟨x,rfl,-⟩ | ⟨k,rfl,-⟩ <;> rfl
theorem extS_app {J:List Ob}:ExtS S (S++J):=fun _ _ h=>get_old h
theorem obs_q {n:Nat} {f:FuncId} {A:D→List D} {v:D} (hm:E.mode f=.obs) (hp:pureLL (l.map enc)=true) (hv:v.pure=true) (hA:∀d,d.pure=true→pureL (A d)=true) (hB:∀k n,pureL (A (.os k 0 n false))=false) (h:∀S,LQ sz enc S d l→WO (dcall E n f (A d) S) fun r T=>r=v∧∃J,T=S++J) (hl:LQ sz enc S d l):∀st,callD E (dcall E n) st S f (A d)=some (v,S):=by
 intro st
 rcases hl with h0 | ⟨x,h0,h1⟩ | ⟨k,h0,h1⟩
 ·obtain⟨_,_,ho,rfl,J,rfl⟩:=h [] (.inl h0)
  exact callD_obsP hm (hA _ (by rw[h0.1];rfl)) ho (freeze_pure hv)
 ·obtain⟨_,_,ho,rfl,J,rfl⟩:=h [] (FLs.lq (.inr ⟨x,h0⟩))
  exact callD_obsP hm (hA _ (by rw[h0];simp only[D.pure,hp])) ho (freeze_pure hv)
 ·obtain⟨_,_,ho,rfl,J,rfl⟩:=h S (.inr (.inr ⟨k,h0,h1⟩))
  exact callD_obsJ hm (by rw[h0];exact hB _ _) ho hv
end
def zeFar:Far:=⟨ByteArray.mk #[],ByteArray.mk #[],ByteArray.mk #[],ByteArray.mk #[],ByteArray.mk #[],false,0,0,0⟩
def farF (t:Trf) (x:Prt):Far:=(t.fares[x.fa.toNat]?).getD zeFar
def knoF (t:Trf) (x:Prt):Bool:= !(decide (x.fa<0) || decide (x.fa≥t.fares.length))
def prdF (ps:List (Int×Int)) (i:Int):Bool:=ps.any fun p=>decide (p.1=i) || decide (p.2=i)
def rtnF (a b:Far):Bool:=a.rnd && (b.rnd && (decide (a.car=b.car) && (decide (a.frm=b.dst) && decide (a.dst=b.frm))))
def prtF (t:Trf) (ps:List (Int×Int)) (a:Far):Nat→List Prt→Int
 |_,[]=> -1
 |k,y::ys=>if (!prdF ps k && rtnF a (farF t y))=true then (k:Int) else prtF t ps a (k+1) ys
def prsF (t:Trf):Nat→List Prt→List (Int×Int)→Option (List (Int×Int))
 |_,[],ps=>some ps
 |i,x::xs,ps=>if (!(farF t x).rnd || prdF ps i)=true then prsF t (i+1) xs ps else if prtF t ps (farF t x) (i+1) xs<0 then none else prsF t (i+1) xs (ps++[((i:Int),prtF t ps (farF t x) (i+1) xs)])
def pairsF (t:Trf) (l:List Prt):List (Int×Int)×Int:=if l.all (knoF t)=true then match prsF t 0 l [] with |some ps=>(ps,0) |none=>([],23) else ([],19)
theorem knoF_far {t:Trf} {x:Prt} (h:knoF t x=true):0≤x.fa∧x.fa.toNat<t.fares.length∧t.fares[x.fa.toNat]? =some (farF t x):=by
 unfold knoF at h
 simp only[Bool.not_eq_true',Bool.or_eq_false_iff,decide_eq_false_iff_not]at h
 have hl:x.fa.toNat<t.fares.length:=by omega
 refine⟨by omega,hl,?_⟩
 unfold farF
 rw[List.getElem?_eq_getElem hl]
 rfl
section
variable {n : Nat}
set_option maxHeartbeats 8000000 in
set_option maxRecDepth 100000 in
theorem known26_d {S:List Ob} (t:Trf) {d:D} {l:List Prt} (h:LQ 4 Prt.enc S d l) (hl:l.length≤1000) (hn:2000≤n):WO (dcall E (n+1) 95 [.agg t.enc,d] S) fun r T=>r=.bool (l.all (knoF t))∧∃J,T=S++J:=by
 have hy:=lq_len Tryz.underlying37 h
 simp only[push_cast]at hy
 obtain⟨q,hq⟩:∃q,q=l.all (knoF t):=⟨_,rfl⟩
 rw[←hq]
 simp only[Trf.enc]
 refine wo_dcall Tryz.func95 rfl (by decide) rfl 29 rfl (fun a hal ha=>?_)
 have h0:a[0]? =some (.agg [.sl 9 (t.fares.map Far.enc) t.fx,.sl 15 (t.rules.map Rul.enc) t.rx,.sl 3 (t.rous.map Rou.enc) t.ox,.sl 7 (t.taxes.map Tx.enc) t.tx]):=ha 0 (by simp)
 have h1:a[1]? =some (d):=ha 1 (by simp)
 clear ha
 simp(maxSteps:=1000000)(disch:=omega)only[push_cast,decide_not,decide_eq_true_eq,decide_eq_false_iff_not,bne_eq_false_iff_eq,beq_eq_false_iff_ne,gt_iff_lt,ne_eq,not_true_eq_false,not_false_eq_true,hal,h0,h1,↓WX,simprocAttr]
 refine wl_loop (fun i a T=>(T=S++[Ob.row 4 [[.sl 9 (t.fares.map Far.enc) t.fx,.sl 15 (t.rules.map Rul.enc) t.rx,.sl 3 (t.rous.map Rou.enc) t.ox,.sl 7 (t.taxes.map Tx.enc) t.tx]]]∧q=(l.drop i).all (knoF t))∧a.length=29∧a[1]? =some (d)∧a[2]? =some (.loc S.length 0 0)∧a[5]? =some (.int .i64 i)) l.length ?_ (by omega) ?_
 ·simp(maxSteps:=1000000)(disch:=omega)only[push_cast,decide_not,decide_eq_true_eq,decide_eq_false_iff_not,bne_eq_false_iff_eq,beq_eq_false_iff_ne,gt_iff_lt,ne_eq,not_true_eq_false,not_false_eq_true,hal,h0,h1,Int.natCast_zero,↓WX,simprocAttr]
  exact hq
 clear hal h0 h1 a
 rintro i a T hi ⟨⟨rfl,e⟩,hal,h1,h2,h5⟩
 rcases Nat.lt_or_eq_of_le hi with hlt |rfl
 case inr=>
  rw[List.drop_length,List.all_nil]at e
  subst e
  simp(maxSteps:=1000000)(disch:=omega)only[push_cast,decide_not,decide_eq_true_eq,decide_eq_false_iff_not,bne_eq_false_iff_eq,beq_eq_false_iff_ne,gt_iff_lt,ne_eq,not_true_eq_false,not_false_eq_true,hal,h1,h2,h5,hy,Int.lt_irrefl,Tryz.f95,↓WX,simprocAttr]
  exact⟨_,rfl⟩
 have hltc:(i:Int)<l.length:=by omega
 obtain⟨x,hx⟩:∃x,l[i]? =some x:=⟨l[i],by simp⟩
 rw[drop_at hx,List.all_cons]at e
 unfold knoF at e
 rcases h with ⟨-,rfl⟩ | ⟨lx,rfl,hk⟩ | ⟨kk,rfl,hk⟩
 ·cases hx
 all_goals
  by_cases c1:x.fa<0
  ·simp only[decide_eq_true c1,Bool.true_or,Bool.not_true,Bool.false_and]at e
   subst e
   simp(maxSteps:=1000000)(disch:=omega)only[push_cast,decide_not,decide_eq_true_eq,decide_eq_false_iff_not,bne_eq_false_iff_eq,beq_eq_false_iff_ne,gt_iff_lt,ne_eq,not_true_eq_false,not_false_eq_true,hal,h1,h2,h5,hk,hltc,hlt,hx,c1,get_end,Prt.enc,Tryz.f95,↓WX,simprocAttr]
   exact⟨_,rfl⟩
  by_cases c2:x.fa≥t.fares.length
  ·simp only[decide_eq_true c2,Bool.or_true,Bool.not_true,Bool.false_and]at e
   subst e
   have c2':((t.fares.length:Int)≤x.fa)=True:=eq_true c2
   simp(maxSteps:=1000000)(disch:=omega)only[push_cast,decide_not,decide_eq_true_eq,decide_eq_false_iff_not,bne_eq_false_iff_eq,beq_eq_false_iff_ne,gt_iff_lt,ne_eq,not_true_eq_false,not_false_eq_true,hal,h1,h2,h5,hk,hltc,hlt,hx,c1,c2',ge_iff_le,get_end,Prt.enc,Tryz.f95,↓WX,simprocAttr]
   exact⟨_,rfl⟩
  ·simp only[decide_eq_false c1,decide_eq_false c2,Bool.or_false,Bool.not_false,Bool.true_and]at e
   have c2':((t.fares.length:Int)≤x.fa)=False:=eq_false c2
   simp(maxSteps:=1000000)(disch:=omega)only[push_cast,decide_not,decide_eq_true_eq,decide_eq_false_iff_not,bne_eq_false_iff_eq,beq_eq_false_iff_ne,gt_iff_lt,ne_eq,not_true_eq_false,not_false_eq_true,hal,h1,h2,h5,hk,hltc,hlt,hx,c1,c2',ge_iff_le,get_end,Prt.enc,wrap_ok,Int.natCast_add,Int.natCast_one,↓WX,simprocAttr]
   exact e
theorem known26_x {S:List Ob} (t:Trf) {d:D} {l:List Prt} (h:LQ 4 Prt.enc S d l) (hl:l.length≤1000) (hn:2001≤n):∀st,callD E (dcall E n) st S 95 [.agg t.enc,d]=some (.bool (l.all (knoF t)),S):=by
 obtain⟨m,rfl⟩:∃m,n=m+1:=⟨n-1,by omega⟩
 exact obs_q (A:=fun d=>[.agg t.enc,d]) rfl (Prts_pure l) rfl (fun d hd=>by simp only[pureL_cons,pureL_nil,D.pure,Trf_pure,hd,Bool.and_true]) (fun k n=>by simp only[pureL_cons,pureL_nil,D.pure,Bool.and_false,Bool.false_and]) (fun S h=>known26_d t h hl (by omega)) h
set_option maxHeartbeats 8000000 in
set_option maxRecDepth 100000 in
theorem paired26_d {S:List Ob} {d:D} {l:List (Int×Int)} (h:LQ 2 encPr S d l) (hl:l.length≤1000) (j:Int) (hn:2000≤n):WO (dcall E (n+1) 96 [d,.int .i64 j] S) fun r T=>r=.bool (prdF l j)∧∃J,T=S++J:=by
 have hy:=lq_len Tryz.underlying38 h
 simp only[push_cast]at hy
 unfold prdF
 obtain⟨q,hq⟩:∃q,q=l.any fun p=>decide (p.1=j) || decide (p.2=j):=⟨_,rfl⟩
 rw[←hq]
 refine wo_dcall Tryz.func96 rfl (by decide) rfl 28 rfl (fun a hal ha=>?_)
 have h0:a[0]? =some (d):=ha 0 (by simp)
 have h1:a[1]? =some (.int .i64 j):=ha 1 (by simp)
 clear ha
 simp(maxSteps:=1000000)(disch:=omega)only[push_cast,decide_not,decide_eq_true_eq,decide_eq_false_iff_not,bne_eq_false_iff_eq,beq_eq_false_iff_ne,gt_iff_lt,ne_eq,not_true_eq_false,not_false_eq_true,hal,h0,h1,↓WX,simprocAttr]
 refine wl_loop (fun i a T=>(T=S∧q=(l.drop i).any fun p=>decide (p.1=j) || decide (p.2=j))∧a.length=28∧a[0]? =some (d)∧a[1]? =some (.int .i64 j)∧a[5]? =some (.int .i64 i)) l.length ?_ (by omega) ?_
 ·simp(maxSteps:=1000000)(disch:=omega)only[push_cast,decide_not,decide_eq_true_eq,decide_eq_false_iff_not,bne_eq_false_iff_eq,beq_eq_false_iff_ne,gt_iff_lt,ne_eq,not_true_eq_false,not_false_eq_true,hal,h0,h1,Int.natCast_zero,↓WX,simprocAttr]
  exact hq
 clear hal h0 h1 a
 rintro i a T hi ⟨⟨rfl,e⟩,hal,h0,h1,h5⟩
 rcases Nat.lt_or_eq_of_le hi with hlt |rfl
 case inr=>
  rw[List.drop_length,List.any_nil]at e
  subst e
  simp(maxSteps:=1000000)(disch:=omega)only[push_cast,decide_not,decide_eq_true_eq,decide_eq_false_iff_not,bne_eq_false_iff_eq,beq_eq_false_iff_ne,gt_iff_lt,ne_eq,not_true_eq_false,not_false_eq_true,hal,h0,h1,h5,hy,Int.lt_irrefl,Tryz.f96,↓WX,simprocAttr]
  exact⟨[],(List.append_nil _).symm⟩
 have hltc:(i:Int)<l.length:=by omega
 obtain⟨x,hx⟩:∃x,l[i]? =some x:=⟨l[i],by simp⟩
 rw[drop_at hx,List.any_cons]at e
 rcases h with ⟨-,rfl⟩ | ⟨lx,rfl,hk⟩ | ⟨kk,rfl,hk⟩
 ·cases hx
 case' inr.inr=>have hk:=hk [];rw[List.append_nil]at hk
 all_goals
  cases c1:decide (x.1=j)
  case true=>
   rw[c1,Bool.true_or,Bool.true_or]at e
   subst e
   simp(maxSteps:=1000000)(disch:=omega)only[push_cast,decide_not,decide_eq_true_eq,decide_eq_false_iff_not,bne_eq_false_iff_eq,beq_eq_false_iff_ne,gt_iff_lt,ne_eq,not_true_eq_false,not_false_eq_true,hal,h0,h1,h5,hk,hltc,hlt,hx,c1,encPr,Tryz.f96,↓WX,simprocAttr]
   exact⟨[],(List.append_nil _).symm⟩
  cases c2:decide (x.2=j)
  ·rw[c1,c2,Bool.false_or,Bool.false_or]at e
   simp(maxSteps:=1000000)(disch:=omega)only[push_cast,decide_not,decide_eq_true_eq,decide_eq_false_iff_not,bne_eq_false_iff_eq,beq_eq_false_iff_ne,gt_iff_lt,ne_eq,not_true_eq_false,not_false_eq_true,hal,h0,h1,h5,hk,hltc,hlt,hx,c1,c2,encPr,wrap_ok,Int.natCast_add,Int.natCast_one,↓WX,simprocAttr]
   exact e
  ·rw[c1,c2,Bool.false_or,Bool.true_or]at e
   subst e
   simp(maxSteps:=1000000)(disch:=omega)only[push_cast,decide_not,decide_eq_true_eq,decide_eq_false_iff_not,bne_eq_false_iff_eq,beq_eq_false_iff_ne,gt_iff_lt,ne_eq,not_true_eq_false,not_false_eq_true,hal,h0,h1,h5,hk,hltc,hlt,hx,c1,c2,encPr,Tryz.f96,↓WX,simprocAttr]
   exact⟨[],(List.append_nil _).symm⟩
theorem paired26_x {S:List Ob} {d:D} {l:List (Int×Int)} (h:LQ 2 encPr S d l) (hl:l.length≤1000) (j:Int) (hn:2001≤n):∀st,callD E (dcall E n) st S 96 [d,.int .i64 j]=some (.bool (prdF l j),S):=by
 obtain⟨m,rfl⟩:∃m,n=m+1:=⟨n-1,by omega⟩
 exact obs_q (A:=fun d=>[d,.int .i64 j]) rfl (encPrs_pure l) rfl (fun d hd=>by simp only[pureL_cons,pureL_nil,D.pure,hd,Bool.and_true]) (fun k n=>by simp only[pureL_cons,pureL_nil,D.pure,Bool.false_and]) (fun S h=>paired26_d h hl j (by omega)) h
set_option maxHeartbeats 8000000 in
set_option maxRecDepth 100000 in
theorem returns26_x (a b:Far) (hn:1≤n):∀st S,callD E (dcall E n) st S 148 [.agg a.enc,.agg b.enc]=some (.bool (rtnF a b),S):=by
 obtain⟨m,rfl⟩:∃m,n=m+1:=⟨n-1,by omega⟩
 have hp:pureL [.agg a.enc,.agg b.enc]=true:=by simp only[pureL_cons,pureL_nil,D.pure,Far_pure,Bool.and_true]
 simp only[Far.enc]at hp ⊢
 have:WO (dcall E (m+1) 148 [.agg [.str a.car,.str a.frm,.str a.dst,.str a.bas,.str a.cls,.bool a.rnd,.int .i64 a.amt,.int .i64 a.rul,.int .i64 a.rou],.agg [.str b.car,.str b.frm,.str b.dst,.str b.bas,.str b.cls,.bool b.rnd,.int .i64 b.amt,.int .i64 b.rul,.int .i64 b.rou]] []) fun r T=>r=.bool (rtnF a b):=by
  unfold rtnF
  obtain⟨a1,a2,a3,a4,a5,a6,a7,a8,a9⟩:=a
  obtain⟨b1,b2,b3,b4,b5,b6,b7,b8,b9⟩:=b
  dsimp only
  refine wo_dcall Tryz.func148 rfl (by decide) rfl 32 rfl (fun a hal ha=>?_)
  have h0:a[0]? =some (.agg [.str a1,.str a2,.str a3,.str a4,.str a5,.bool a6,.int .i64 a7,.int .i64 a8,.int .i64 a9]):=ha 0 (by simp)
  have h1:a[1]? =some (.agg [.str b1,.str b2,.str b3,.str b4,.str b5,.bool b6,.int .i64 b7,.int .i64 b8,.int .i64 b9]):=ha 1 (by simp)
  clear ha
  cases a6
  ·simp(maxSteps:=1000000)(disch:=omega)only[push_cast,decide_not,decide_eq_true_eq,decide_eq_false_iff_not,bne_eq_false_iff_eq,beq_eq_false_iff_ne,gt_iff_lt,ne_eq,not_true_eq_false,not_false_eq_true,hal,h0,h1,Bool.false_and,Tryz.f148,↓WX,simprocAttr]
  cases b6
  ·simp(maxSteps:=1000000)(disch:=omega)only[push_cast,decide_not,decide_eq_true_eq,decide_eq_false_iff_not,bne_eq_false_iff_eq,beq_eq_false_iff_ne,gt_iff_lt,ne_eq,not_true_eq_false,not_false_eq_true,hal,h0,h1,Bool.false_and,Bool.true_and,Tryz.f148,↓WX,simprocAttr]
  cases e1:decide (a1=b1)
  ·simp(maxSteps:=1000000)(disch:=omega)only[push_cast,decide_not,decide_eq_true_eq,decide_eq_false_iff_not,bne_eq_false_iff_eq,beq_eq_false_iff_ne,gt_iff_lt,ne_eq,not_true_eq_false,not_false_eq_true,hal,h0,h1,e1,str_eq,Bool.false_and,Bool.true_and,Tryz.f148,↓WX,simprocAttr]
  cases e2:decide (a2=b3)
  ·simp(maxSteps:=1000000)(disch:=omega)only[push_cast,decide_not,decide_eq_true_eq,decide_eq_false_iff_not,bne_eq_false_iff_eq,beq_eq_false_iff_ne,gt_iff_lt,ne_eq,not_true_eq_false,not_false_eq_true,hal,h0,h1,e1,e2,str_eq,Bool.false_and,Bool.true_and,Tryz.f148,↓WX,simprocAttr]
  ·simp(maxSteps:=1000000)(disch:=omega)only[push_cast,decide_not,decide_eq_true_eq,decide_eq_false_iff_not,bne_eq_false_iff_eq,beq_eq_false_iff_ne,gt_iff_lt,ne_eq,not_true_eq_false,not_false_eq_true,hal,h0,h1,e1,e2,str_eq,Bool.false_and,Bool.true_and,Tryz.f148,↓WX,simprocAttr]
 obtain⟨_,T,ho,rfl⟩:=this
 exact fun st S=>callD_pure rfl hp ho rfl
end
end Go.Proofs.YtaklebjoenophaaGreat.Dm
namespace Go.Proofs.YtaklebjoenophaaGreat.Dm
open Go Gw
set_option linter.unusedSimpArgs false
set_option linter.unusedSimpArgs false
section
variable {α : Type} {sz : Nat} {enc : α → List D} {S T : List Ob} {d : D} {l : List α}
theorem LQ.pure0 (h:LQ sz enc S d l) (hp:d.pure=true):FLs sz enc d l:=by
 rcases h with h | ⟨x,h,-⟩ | ⟨k,rfl,-⟩
 ·exact .inl h
 ·exact .inr ⟨x,h⟩
 ·cases hp
theorem obs_g {n:Nat} {f:FuncId} {args:List D} {v:D} (hm:E.mode f=.obs) (hv:v.pure=true) (h:∀S',(pureL args=true∨S'=S)→WO (dcall E n f args S') fun r T=>r=v∧∃J,T=S'++J):∀st,callD E (dcall E n) st S f args=some (v,S):=by
 intro st
 by_cases hp:pureL args=true
 ·obtain⟨_,_,ho,rfl,J,rfl⟩:=h [] (.inl hp)
  exact callD_obsP hm hp ho (freeze_pure hv)
 ·obtain⟨_,_,ho,rfl,J,rfl⟩:=h S (.inr rfl)
  exact callD_obsJ hm (by simpa using hp) ho hv
theorem extS_pre (h:ExtS S T):∃J,T=S++J:=by
 refine⟨T.drop S.length,?_⟩
 apply List.ext_getElem?
 intro i
 by_cases e:i<S.length
 ·rw[List.getElem?_append_left e,h i S[i] (List.getElem?_eq_getElem e),List.getElem?_eq_getElem e]
 ·rw[List.getElem?_append_right (by omega),List.getElem?_drop]
  congr 1
  omega
end
theorem prtF_bound {t:Trf} {ps:List (Int×Int)} {a:Far}:∀ {l:List Prt} {k:Nat},prtF t ps a k l<0∨((k:Int)≤prtF t ps a k l∧prtF t ps a k l<k+l.length)
 | [],k=>.inl (by unfold prtF;omega)
 |y::ys,k=>by
  unfold prtF
  split
  ·right
   rw[List.length_cons]
   omega
  ·rcases prtF_bound (t:=t) (ps:=ps) (a:=a) (l:=ys) (k:=k+1) with h |h
   ·exact .inl h
   ·right
    rw[List.length_cons]
    omega
section
variable {n : Nat}
set_option maxHeartbeats 16000000 in
set_option maxRecDepth 100000 in
theorem partner26_d {S:List Ob} (t:Trf) {d e:D} {l:List Prt} {ps:List (Int×Int)} (h:LQ 4 Prt.enc S d l) (g:LQ 2 encPr S e ps) (hl:l.length≤1000) (hps:ps.length≤1000) (hk:∀x∈l,knoF t x=true) {i:Nat} {x:Prt} (hx:l[i]? =some x) (hn:2010≤n):
  WO (dcall E (n+1) 97 [.agg t.enc,d,e,.int .i64 i] S) fun r T=>r=.int .i64 (prtF t ps (farF t x) (i+1) (l.drop (i+1)))∧∃J,T=S++J:=by
 have hy:=lq_len Tryz.underlying37 h
 simp only[push_cast]at hy
 have hil:i<l.length:=(List.getElem?_eq_some_iff.1 hx).1
 obtain⟨fx1,fx2,fx3⟩:=knoF_far (hk x (List.mem_of_getElem? hx))
 have fx1':(0≤x.fa)=True:=eq_true fx1
 obtain⟨q,hq⟩:∃q,q=prtF t ps (farF t x) (i+1) (l.drop (i+1)):=⟨_,rfl⟩
 rw[←hq]
 generalize farF t x=fx at*
 obtain⟨R0,hR0⟩:∃R0,R0=Ob.row 4 [t.enc]:=⟨_,rfl⟩
 have cp:=fun j:Nat=>paired26_x (n:=n) (g.ext (extS_app (J:=[R0]))) hps (j:Int) (by omega)
 have cr:=fun b=>returns26_x (n:=n) fx b (by omega)
 simp only[Trf.enc,Far.enc]at cr hR0 ⊢
 refine wo_dcall Tryz.func97 rfl (by decide) rfl 44 rfl (fun a hal ha=>?_)
 have h0:a[0]? =some (.agg [.sl 9 (t.fares.map Far.enc) t.fx,.sl 15 (t.rules.map Rul.enc) t.rx,.sl 3 (t.rous.map Rou.enc) t.ox,.sl 7 (t.taxes.map Tx.enc) t.tx]):=ha 0 (by simp)
 have h1:a[1]? =some (d):=ha 1 (by simp)
 have h2:a[2]? =some (e):=ha 2 (by simp)
 have h3:a[3]? =some (.int .i64 i):=ha 3 (by simp)
 clear ha
 simp(maxSteps:=1000000)(disch:=omega)only[push_cast,decide_not,decide_eq_true_eq,decide_eq_false_iff_not,bne_eq_false_iff_eq,beq_eq_false_iff_ne,gt_iff_lt,ne_eq,not_true_eq_false,not_false_eq_true,hal,h0,h1,h2,h3,wrap_ok,↓WX,simprocAttr]
 refine wl_loop (fun j a T=>(T=S++[R0]∧∃K:Nat,K=i+1+j∧a[9]? =some (.int .i64 K)∧q=prtF t ps fx K (l.drop K))∧a.length=44∧a[1]? =some (d)∧a[2]? =some (e)∧a[3]? =some (.int .i64 i)∧a[4]? =some (.loc S.length 0 0)) (l.length-(i+1)) ?_ (by omega) ?_
 ·simp(maxSteps:=1000000)(disch:=omega)only[push_cast,decide_not,decide_eq_true_eq,decide_eq_false_iff_not,bne_eq_false_iff_eq,beq_eq_false_iff_ne,gt_iff_lt,ne_eq,not_true_eq_false,not_false_eq_true,hal,h0,h1,h2,h3,hR0,↓WX,simprocAttr]
  exact⟨i+1,rfl,by push_cast<;>rfl,hq⟩
 clear hal h0 h1 h2 h3 a
 clear hq
 rintro j a T hj ⟨⟨rfl,K,hK,h9,e0⟩,hal,h1,h2,h3,h4⟩
 have gR:(S++[R0])[S.length]? =some (Ob.row 4 [[.sl 9 (t.fares.map Far.enc) t.fx,.sl 15 (t.rules.map Rul.enc) t.rx,.sl 3 (t.rous.map Rou.enc) t.ox,.sl 7 (t.taxes.map Tx.enc) t.tx]]):=by rw[hR0];exact get_end
 by_cases hlt:K<l.length
 case neg=>
  obtain rfl:K=l.length:=by omega
  rw[List.drop_length,prtF]at e0
  subst e0
  simp(maxSteps:=1000000)(disch:=omega)only[push_cast,decide_not,decide_eq_true_eq,decide_eq_false_iff_not,bne_eq_false_iff_eq,beq_eq_false_iff_ne,gt_iff_lt,ne_eq,not_true_eq_false,not_false_eq_true,hal,h1,h2,h3,h4,h9,hy,Int.lt_irrefl,Tryz.f97,↓WX,simprocAttr]
  exact⟨_,rfl⟩
 have hltc:(K:Int)<l.length:=by omega
 obtain⟨y,hyK⟩:∃y,l[K]? =some y:=⟨l[K],by simp⟩
 obtain⟨fy1,fy2,fy3⟩:=knoF_far (hk y (List.mem_of_getElem? hyK))
 have fy1':(0≤y.fa)=True:=eq_true fy1
 rw[drop_at hyK,prtF]at e0
 have cp:=cp K
 have cr:=cr (farF t y)
 generalize farF t y=fy at*
 generalize prdF ps K=bp at*
 generalize rtnF fx fy=br at*
 have hj1:K<l.length→j<l.length-(i+1):=fun _=>by omega
 rcases h with ⟨-,rfl⟩ | ⟨lx,rfl,hk0⟩ | ⟨kk,rfl,hk0⟩
 ·cases hyK
 all_goals
  cases bp
  ·cases br
   ·simp only[Bool.not_false,Bool.true_and,Bool.false_eq_true,if_false]at e0
    simp(maxSteps:=1000000)(disch:=omega)only[push_cast,decide_not,decide_eq_true_eq,decide_eq_false_iff_not,bne_eq_false_iff_eq,beq_eq_false_iff_ne,gt_iff_lt,ne_eq,not_true_eq_false,not_false_eq_true,hal,h1,h2,h3,h4,h9,hk0,gR,hlt,hltc,hil,hx,hyK,cp,cr,fx1',fx2,fx3,fy1',fy2,fy3,Bool.not_false,Prt.enc,Far.enc,wrap_ok,↓WX,simprocAttr]
    exact⟨by omega,K+1,by omega,by push_cast<;>rfl,e0⟩
   ·simp only[Bool.not_false,Bool.true_and,if_true]at e0
    subst e0
    simp(maxSteps:=1000000)(disch:=omega)only[push_cast,decide_not,decide_eq_true_eq,decide_eq_false_iff_not,bne_eq_false_iff_eq,beq_eq_false_iff_ne,gt_iff_lt,ne_eq,not_true_eq_false,not_false_eq_true,hal,h1,h2,h3,h4,h9,hk0,gR,hlt,hltc,hil,hx,hyK,cp,cr,fx1',fx2,fx3,fy1',fy2,fy3,Bool.not_false,Prt.enc,Far.enc,Tryz.f97,↓WX,simprocAttr]
    exact⟨_,rfl⟩
  ·simp only[Bool.not_true,Bool.false_and,Bool.false_eq_true,if_false]at e0
   simp(maxSteps:=1000000)(disch:=omega)only[push_cast,decide_not,decide_eq_true_eq,decide_eq_false_iff_not,bne_eq_false_iff_eq,beq_eq_false_iff_ne,gt_iff_lt,ne_eq,not_true_eq_false,not_false_eq_true,hal,h1,h2,h3,h4,h9,hk0,gR,hlt,hltc,hil,hx,hyK,cp,Bool.not_true,Prt.enc,wrap_ok,↓WX,simprocAttr]
   exact⟨by omega,K+1,by omega,by push_cast<;>rfl,e0⟩
theorem partner26_x {S:List Ob} (t:Trf) {d e:D} {l:List Prt} {ps:List (Int×Int)} (h:LQ 4 Prt.enc S d l) (g:LQ 2 encPr S e ps) (hl:l.length≤1000) (hps:ps.length≤1000) (hk:∀x∈l,knoF t x=true) {i:Nat} {x:Prt} (hx:l[i]? =some x) (hn:2011≤n):∀st,callD E (dcall E n) st S 97 [.agg t.enc,d,e,.int .i64 i]=some (.int .i64 (prtF t ps (farF t x) (i+1) (l.drop (i+1))),S):=by
 obtain⟨m,rfl⟩:∃m,n=m+1:=⟨n-1,by omega⟩
 refine obs_g rfl rfl fun S' hS=>?_
 rcases hS with hp |rfl
 ·simp only[pureL_cons,pureL_nil,D.pure,Bool.and_true,Bool.and_eq_true]at hp
  exact partner26_d t (h.pure0 hp.2.1).lq (g.pure0 hp.2.2).lq hl hps hk hx (by omega)
 ·exact partner26_d t h g hl hps hk hx (by omega)
set_option maxHeartbeats 16000000 in
set_option maxRecDepth 100000 in
theorem Pairs26_d {S:List Ob} (t:Trf) {d:D} {l:List Prt} (h:LQ 4 Prt.enc S d l) (hl:l.length≤900) (hn:3000≤n):
  WO (dcall E (n+1) 37 [.agg t.enc,d] S) fun r T=>ExtS S T∧∃d',r=.tup [d',.int .i64 (pairsF t l).2]∧GL 2 encPr T d' (pairsF t l).1:=by
 have hy:=lq_len Tryz.underlying37 h
 simp only[push_cast]at hy
 obtain⟨R0,hR0⟩:∃R0,R0=Ob.row 4 [t.enc]:=⟨_,rfl⟩
 have ck:=known26_x (n:=n) t (h.ext (extS_app (J:=[R0]))) (by omega) (by omega)
 unfold pairsF
 have hk:l.all (knoF t)=true→∀x∈l,knoF t x=true:=fun h=>List.all_eq_true.1 h
 have ap:∀ {T:List Ob} {d:D} {cs:List (Int×Int)},GL 2 encPr T d cs→cs.length≤100000→∀s:Int×Int,∃S',dAppend Tryz.prog T 38 38 d (.sl 2 [[.int .i64 s.1,.int .i64 s.2]] true)=some (.os T.length 0 (cs.length+1) false,S')∧GL 2 encPr S' (.os T.length 0 (cs.length+1) false) (cs++[s])∧S'.length=T.length+1∧(∀k o,(∀n,d=.os k 0 n false→False)→T[k]? =some o→S'[k]? =some o):=fun h hc s=>by
  obtain⟨S',a1,a2,a3,a4,-⟩:=app_gl (t:=38) (e:=91) (z:=.agg [.int .i64 0,.int .i64 0]) (n:=1) (by kernel_rfl) (by kernel_rfl) (by kernel_rfl) rfl (Nat.le_of_ble_eq_true (by kernel_rfl)) h hc s
  exact⟨S',a1,a2,a3,a4⟩
 generalize l.all (knoF t)=kb at*
 obtain⟨q,hq⟩:∃q,q=prsF t 0 l []:=⟨_,rfl⟩
 rw[←hq]
 have cpd:=fun (T:List Ob) (d':D) (ps:List (Int×Int)) (hg:GL 2 encPr T d' ps) (hps:ps.length≤1000) (i:Nat)=>paired26_x (n:=n) hg.lq hps (i:Int) (by omega)
 have cpr:=fun (T:List Ob) (d':D) (ps:List (Int×Int)) (hx:ExtS S T) (hg:GL 2 encPr T d' ps) (hps:ps.length≤1000) (hkn:∀x∈l,knoF t x=true) (i:Nat) (x:Prt) (hxi:l[i]? =some x)=>partner26_x (n:=n) t (h.ext hx) hg.lq (by omega) hps hkn hxi (by omega)
 simp only[Trf.enc]at ck cpr hR0 ⊢
 refine wo_dcall Tryz.func37 rfl (by decide) rfl 49 rfl (fun a hal ha=>?_)
 have h0:a[0]? =some (.agg [.sl 9 (t.fares.map Far.enc) t.fx,.sl 15 (t.rules.map Rul.enc) t.rx,.sl 3 (t.rous.map Rou.enc) t.ox,.sl 7 (t.taxes.map Tx.enc) t.tx]):=ha 0 (by simp)
 have h1:a[1]? =some (d):=ha 1 (by simp)
 clear ha
 refine wc_scut (fun a V=>V=S++[R0]∧a.length=49∧a[1]? =some (d)∧a[2]? =some (.loc S.length 0 0)∧a[4]? =some (.nils)∧a[5]? =some (.int .i64 0)) ?_ ?_
 ·simp(maxSteps:=1000000)(disch:=omega)only[push_cast,decide_not,decide_eq_true_eq,decide_eq_false_iff_not,bne_eq_false_iff_eq,beq_eq_false_iff_ne,gt_iff_lt,ne_eq,not_true_eq_false,not_false_eq_true,hal,h0,h1,hR0,↓WX,simprocAttr]
 clear hal h0 h1 a
 rintro a V ⟨rfl,hal,h1,h2,h4,h5⟩
 have gR:(S++[R0])[S.length]? =some (Ob.row 4 [[.sl 9 (t.fares.map Far.enc) t.fx,.sl 15 (t.rules.map Rul.enc) t.rx,.sl 3 (t.rous.map Rou.enc) t.ox,.sl 7 (t.taxes.map Tx.enc) t.tx]]):=by rw[hR0];exact get_end
 have hR1:S.length<(S++[R0]).length:=by simp
 have hXS:ExtS S (S++[R0]):=extS_app
 generalize S++[R0]=V0 at*
 cases kb
 ·simp(maxSteps:=1000000)(disch:=omega)only[push_cast,decide_not,decide_eq_true_eq,decide_eq_false_iff_not,bne_eq_false_iff_eq,beq_eq_false_iff_ne,gt_iff_lt,ne_eq,not_true_eq_false,not_false_eq_true,hal,h1,h2,h4,h5,gR,ck,Bool.not_false,Bool.false_eq_true,if_false,Tryz.f37,↓WX,simprocAttr]
  exact⟨hXS,_,rfl,GL.nil⟩
 simp only[if_true]
 have hk:=hk rfl
 refine wc_scut (fun a V=>V=V0∧a.length=49∧a[1]? =some (d)∧a[2]? =some (.loc S.length 0 0)∧a[4]? =some (.nils)∧a[5]? =some (.int .i64 0)) ?_ ?_
 ·simp(maxSteps:=1000000)(disch:=omega)only[push_cast,decide_not,decide_eq_true_eq,decide_eq_false_iff_not,bne_eq_false_iff_eq,beq_eq_false_iff_ne,gt_iff_lt,ne_eq,not_true_eq_false,not_false_eq_true,hal,h1,h2,h4,h5,gR,ck,Bool.not_true,↓WX,simprocAttr]
 clear hal h1 h2 h4 h5 a
 rintro a V ⟨rfl,hal,h1,h2,h4,h5⟩
 refine wc_scut (fun a W=>W=V∧a.length=49∧a[1]? =some (d)∧a[2]? =some (.loc S.length 0 0)∧a[4]? =some (.nils)∧a[5]? =some (.int .i64 0)∧a[6]? =some (.nils)) ?_ ?_
 ·simp(maxSteps:=1000000)(disch:=omega)only[push_cast,decide_not,decide_eq_true_eq,decide_eq_false_iff_not,bne_eq_false_iff_eq,beq_eq_false_iff_ne,gt_iff_lt,ne_eq,not_true_eq_false,not_false_eq_true,hal,h1,h2,h4,h5,↓WX,simprocAttr]
 clear hal h1 h2 h4 h5 a
 rintro a W ⟨rfl,hal,h1,h2,h4,h5,h6⟩
 refine wc_rcut (fun a T=>(ExtS W T∧∃dp ps,a[6]? =some dp∧GL 2 encPr T dp ps∧q=some ps)∧a.length=49∧a[1]? =some (d)∧a[2]? =some (.loc S.length 0 0)) ?_ ?_
 ·simp(maxSteps:=1000000)(disch:=omega)only[push_cast,decide_not,decide_eq_true_eq,decide_eq_false_iff_not,bne_eq_false_iff_eq,beq_eq_false_iff_ne,gt_iff_lt,ne_eq,not_true_eq_false,not_false_eq_true,hal,h1,h2,h4,h5,h6,↓WX,simprocAttr]
  refine wl_loop (fun i a T=>(ExtS W T∧∃dp ps,a[6]? =some dp∧GL 2 encPr T dp ps∧ps.length≤i∧q=prsF t i (l.drop i) ps∧∀k n,dp=.os k 0 n false→W.length≤k)∧a.length=49∧a[1]? =some (d)∧a[2]? =some (.loc S.length 0 0)∧a[7]? =some (.int .i64 i)) l.length ?_ (by omega) ?_
  ·simp(maxSteps:=1000000)(disch:=omega)only[push_cast,decide_not,decide_eq_true_eq,decide_eq_false_iff_not,bne_eq_false_iff_eq,beq_eq_false_iff_ne,gt_iff_lt,ne_eq,not_true_eq_false,not_false_eq_true,hal,h1,h2,h4,h5,h6,Int.natCast_zero,↓WX,simprocAttr]
   exact⟨fun _ _ h=>h,_,[],rfl,GL.nil,Nat.le_refl _,hq,fun k n h=>by cases h⟩
  clear hal h1 h2 h4 h5 h6 a
  clear hq ck
  rintro i a T hi ⟨⟨hXT,dp,ps,h6,hg,hpl,e0,hdk⟩,hal,h1,h2,h7⟩
  have gT:=hXT _ _ gR
  rcases Nat.lt_or_eq_of_le hi with hlt |rfl
  case inr=>
   rw[List.drop_length,prsF]at e0
   simp(maxSteps:=1000000)(disch:=omega)only[push_cast,decide_not,decide_eq_true_eq,decide_eq_false_iff_not,bne_eq_false_iff_eq,beq_eq_false_iff_ne,gt_iff_lt,ne_eq,not_true_eq_false,not_false_eq_true,hal,h1,h2,h6,h7,hy,Int.lt_irrefl,false_and,false_or,or_false,true_and,↓WX,simprocAttr]
   exact⟨hXT,_,_,rfl,hg,e0⟩
  have hltc:(i:Int)<l.length:=by omega
  obtain⟨x,hx⟩:∃x,l[i]? =some x:=⟨l[i],by simp⟩
  obtain⟨fx1,fx2,fx3⟩:=knoF_far (hk x (List.mem_of_getElem? hx))
  have fx1':(0≤x.fa)=True:=eq_true fx1
  have cpd:=cpd T dp ps hg (by omega) i
  have cpr:=cpr T dp ps (fun _ _ h=>hXT _ _ (hXS _ _ h)) hg (by omega) hk i x hx
  rw[drop_at hx,prsF]at e0
  have hpb:=prtF_bound (t:=t) (ps:=ps) (a:=farF t x) (l:=l.drop (i+1)) (k:=i+1)
  rw[List.length_drop]at hpb
  generalize prtF t ps (farF t x) (i+1) (l.drop (i+1))=pk at*
  generalize farF t x=fx at*
  generalize prdF ps i=bp at*
  obtain⟨S',a1,a2,a3,a4⟩:=ap hg (by omega) ((i:Int),pk)
  have hT0:W.length≤T.length:=by
   obtain⟨J,rfl⟩:=extS_pre hXT
   simp
  have hX2:ExtS W S':=fun k o hko=>a4 k o (fun n hdn=>by
   have:=hdk k n hdn
   have:=(List.getElem?_eq_some_iff.1 hko).1
   omega) (hXT k o hko)
  have hcase:(fx.rnd=false∨bp=true)∨(fx.rnd=true∧bp=false):=by
   cases fx.rnd <;> cases bp <;> simp
  have hyT:∀T,_:=hy
  rcases h with ⟨-,rfl⟩ | ⟨lx,rfl,hk0⟩ | ⟨kk,rfl,hk0⟩
  ·cases hx
  case' inr.inr=>
   have hk0:T[kk]? =some (.row 4 (l.map Prt.enc)):=by
    have:=hk0 []
    rw[List.append_nil]at this
    exact hXT _ _ (hXS _ _ this)
  all_goals
   cases hr:fx.rnd
   ·simp only[hr,Bool.not_false,Bool.true_or,if_true]at e0
    simp(maxSteps:=1000000)(disch:=omega)only[push_cast,decide_not,decide_eq_true_eq,decide_eq_false_iff_not,bne_eq_false_iff_eq,beq_eq_false_iff_ne,gt_iff_lt,ne_eq,not_true_eq_false,not_false_eq_true,hal,h1,h2,h6,h7,hk0,gT,hlt,hltc,hx,fx1',fx2,fx3,hr,Bool.not_false,Prt.enc,Far.enc,wrap_ok,Int.natCast_add,Int.natCast_one,↓WX,simprocAttr]
    exact⟨hXT,_,_,rfl,hg,by omega,e0,hdk⟩
   cases bp
   ·simp only[hr,Bool.not_true,Bool.false_or,Bool.false_eq_true,if_false]at e0
    by_cases c:pk<0
    ·rw[if_pos c]at e0
     subst e0
     simp(maxSteps:=1000000)(disch:=omega)only[push_cast,decide_not,decide_eq_true_eq,decide_eq_false_iff_not,bne_eq_false_iff_eq,beq_eq_false_iff_ne,gt_iff_lt,ne_eq,not_true_eq_false,not_false_eq_true,hal,h1,h2,h6,h7,hk0,gT,hlt,hltc,hx,fx1',fx2,fx3,hr,cpd,cpr,c,Bool.not_true,Prt.enc,Far.enc,false_and,false_or,or_false,true_and,Tryz.f37,↓WX,simprocAttr]
     exact⟨fun k o ho=>hXT _ _ (hXS _ _ ho),_,rfl,GL.nil⟩
    ·rw[if_neg c]at e0
     simp(maxSteps:=1000000)(disch:=omega)only[push_cast,decide_not,decide_eq_true_eq,decide_eq_false_iff_not,bne_eq_false_iff_eq,beq_eq_false_iff_ne,gt_iff_lt,ne_eq,not_true_eq_false,not_false_eq_true,hal,h1,h2,h6,h7,hk0,gT,hlt,hltc,hx,fx1',fx2,fx3,hr,cpd,cpr,c,a1,Bool.not_true,Prt.enc,Far.enc,wrap_ok,Int.natCast_add,Int.natCast_one,↓WX,simprocAttr]
     exact⟨hX2,_,_,rfl,a2,by rw[List.length_append,List.length_singleton];omega,e0,fun k n hdn=>by obtain⟨rfl,-⟩:=D.os.inj hdn;exact hT0⟩
   ·simp only[hr,Bool.or_true,if_true]at e0
    simp(maxSteps:=1000000)(disch:=omega)only[push_cast,decide_not,decide_eq_true_eq,decide_eq_false_iff_not,bne_eq_false_iff_eq,beq_eq_false_iff_ne,gt_iff_lt,ne_eq,not_true_eq_false,not_false_eq_true,hal,h1,h2,h6,h7,hk0,gT,hlt,hltc,hx,fx1',fx2,fx3,hr,cpd,Bool.not_true,Prt.enc,Far.enc,wrap_ok,Int.natCast_add,Int.natCast_one,↓WX,simprocAttr]
    exact⟨hXT,_,_,rfl,hg,by omega,e0,hdk⟩
 clear hal h1 h2 h4 h5 h6 a
 rintro a T ⟨⟨hXT,dp,ps,h6,hg,rfl⟩,hal,h1,h2⟩
 simp(maxSteps:=1000000)(disch:=omega)only[push_cast,decide_not,decide_eq_true_eq,decide_eq_false_iff_not,bne_eq_false_iff_eq,beq_eq_false_iff_ne,gt_iff_lt,ne_eq,not_true_eq_false,not_false_eq_true,hal,h1,h2,h6,Tryz.f37,↓WX,simprocAttr]
 exact⟨fun k o ho=>hXT _ _ (hXS _ _ ho),_,rfl,hg⟩
end
end Go.Proofs.YtaklebjoenophaaGreat.Dm
