/-
  The reference's check of a tariff: is a city known.
  The reference's check of a tariff: a rule by its number.
  The reference's check of a rule: some list.
-/
import Derived.Test.YtaklebjoenophaaGreatTaB
set_option linter.unusedSimpArgs false
set_option linter.unusedVariables false
namespace Go.Proofs.YtaklebjoenophaaGreat.Dm
open Go Gw
set_option linter.unusedSimpArgs false
set_option linter.unusedSimpArgs false
structure Rou where
 num:Int
 links:List (ByteArray×ByteArray)
 linksx:Bool
 miles:Int
def Rou.enc (r:Rou):List D:=[.int .i64 r.num,.sl 2 (r.links.map encLk) r.linksx,.int .i64 r.miles]
theorem Rou_pure (r:Rou):pureL r.enc=true:=by
 simp only[D.pure,pureL_cons,pureL_nil,Bool.and_true,Bool.and_self,Rou.enc,encLk_pure]
theorem Rous_pure (l:List Rou):pureLL (l.map Rou.enc)=true:=by
 induction l with
 |nil=>rfl
 |cons f fs ih=>rw[List.map_cons,pureLL_cons,ih,Rou_pure];rfl
section
variable {n : Nat}
set_option maxHeartbeats 2000000 in
theorem known24_c (p:Plc) (hl:p.aps.length≤1048576) (hn:1048580≤n) (s:ByteArray):∃b,∀st S,callD E (dcall E n) st S 106 [.agg p.enc,.str s]=some (.bool b,S):=by
 obtain⟨m,rfl⟩:∃m,n=m+1:=⟨n-1,by omega⟩
 have hp:=Plc_pure p
 simp only[Plc.enc]at hp ⊢
 have:WO (dcall E (m+1) 106 [.agg [.sl 5 (p.aps.map Apt.enc) p.apsx,.sl 3 (p.dts.map Dst.enc) p.dtsx],.str s] []) fun r T=>∃b,r=.bool b:=by
  refine wo_dcall Tryz.func106 rfl (by decide) rfl 21 rfl (fun a hal ha=>?_)
  have h0:a[0]? =some (.agg [.sl 5 (p.aps.map Apt.enc) p.apsx,.sl 3 (p.dts.map Dst.enc) p.dtsx]):=ha 0 (by simp)
  have h1:a[1]? =some (.str s):=ha 1 (by simp)
  clear ha
  simp(maxSteps:=1000000)(disch:=omega)only[push_cast,decide_not,decide_eq_true_eq,decide_eq_false_iff_not,bne_eq_false_iff_eq,beq_eq_false_iff_ne,gt_iff_lt,ne_eq,not_true_eq_false,not_false_eq_true,hal,h0,h1,↓WX,simprocAttr]
  refine wl_loop (fun i a T=>T=[Ob.row 2 [[.sl 5 (p.aps.map Apt.enc) p.apsx,.sl 3 (p.dts.map Dst.enc) p.dtsx]]]∧a.length=21∧a[1]? =some (.str s)∧a[2]? =some (.loc 0 0 0)∧a[5]? =some (.int .i64 i)) p.aps.length ?_ (by omega) ?_
  ·simp(maxSteps:=1000000)(disch:=omega)only[push_cast,decide_not,decide_eq_true_eq,decide_eq_false_iff_not,bne_eq_false_iff_eq,beq_eq_false_iff_ne,gt_iff_lt,ne_eq,not_true_eq_false,not_false_eq_true,hal,h0,h1,Int.natCast_zero,↓WX,simprocAttr]
  clear hal h0 h1 a
  rintro i a T hi ⟨rfl,hal,h1,h2,h5⟩
  rcases Nat.lt_or_eq_of_le hi with hlt |rfl
  case inr=>
   simp(maxSteps:=1000000)(disch:=omega)only[push_cast,decide_not,decide_eq_true_eq,decide_eq_false_iff_not,bne_eq_false_iff_eq,beq_eq_false_iff_ne,gt_iff_lt,ne_eq,not_true_eq_false,not_false_eq_true,hal,h1,h2,h5,Int.lt_irrefl,Tryz.f106,↓WX,simprocAttr]
   exact⟨_,rfl⟩
  obtain⟨x,hx⟩:∃x,p.aps[i]? =some x:=⟨p.aps[i],by simp⟩
  have hltc:(i:Int)<p.aps.length:=by omega
  by_cases q:x.city=s
  ·simp(maxSteps:=1000000)(disch:=omega)only[push_cast,decide_not,decide_eq_true_eq,decide_eq_false_iff_not,bne_eq_false_iff_eq,beq_eq_false_iff_ne,gt_iff_lt,ne_eq,not_true_eq_false,not_false_eq_true,hal,h1,h2,h5,hltc,hlt,hx,q,str_eq,Apt.enc,Tryz.f106,↓WX,simprocAttr]
   exact⟨_,rfl⟩
  ·simp(maxSteps:=1000000)(disch:=omega)only[push_cast,decide_not,decide_eq_true_eq,decide_eq_false_iff_not,bne_eq_false_iff_eq,beq_eq_false_iff_ne,gt_iff_lt,ne_eq,not_true_eq_false,not_false_eq_true,hal,h1,h2,h5,hltc,hlt,hx,q,str_eq,Apt.enc,wrap_ok,Int.natCast_add,Int.natCast_one,↓WX,simprocAttr]
 obtain⟨_,T,ho,b,rfl⟩:=this
 exact⟨b,fun st S=>callD_pure rfl (by simp only[pureL_cons,pureL_nil,D.pure,Bool.and_true]at hp ⊢;exact hp) ho rfl⟩
set_option maxHeartbeats 4000000 in
set_option maxRecDepth 100000 in
theorem Routing24_c (fe re te:List (List D)) (fx rx tx:Bool) (l:List Rou) (lx:Bool) (hf:pureLL fe=true) (hr:pureLL re=true) (ht:pureLL te=true) (hl:l.length≤1048576) (hn:1048580≤n) (k:Int):∃(d:D) (b:Bool),∀st S,callD E (dcall E n) st S 84 [.agg [.sl 9 fe fx,.sl 15 re rx,.sl 3 (l.map Rou.enc) lx,.sl 7 te tx],.int .i64 k]=some (.tup [d,.bool b],S):=by
 obtain⟨m,rfl⟩:∃m,n=m+1:=⟨n-1,by omega⟩
 have:WO (dcall E (m+1) 84 [.agg [.sl 9 fe fx,.sl 15 re rx,.sl 3 (l.map Rou.enc) lx,.sl 7 te tx],.int .i64 k] []) fun r T=>∃d b,r=.tup [d,.bool b]∧d.pure=true:=by
  refine wo_dcall Tryz.func84 rfl (by decide) rfl 28 rfl (fun a hal ha=>?_)
  have h0:a[0]? =some (.agg [.sl 9 fe fx,.sl 15 re rx,.sl 3 (l.map Rou.enc) lx,.sl 7 te tx]):=ha 0 (by simp)
  have h1:a[1]? =some (.int .i64 k):=ha 1 (by simp)
  clear ha
  simp(maxSteps:=1000000)(disch:=omega)only[push_cast,decide_not,decide_eq_true_eq,decide_eq_false_iff_not,bne_eq_false_iff_eq,beq_eq_false_iff_ne,gt_iff_lt,ne_eq,not_true_eq_false,not_false_eq_true,hal,h0,h1,↓WX,simprocAttr]
  refine wl_loop (fun i a T=>T=[Ob.row 4 [[.sl 9 fe fx,.sl 15 re rx,.sl 3 (l.map Rou.enc) lx,.sl 7 te tx]],Ob.row 3 [[.int .i64 0,.nils,.int .i64 0]]]∧a.length=28∧a[1]? =some (.int .i64 k)∧a[2]? =some (.loc 0 0 0)∧a[4]? =some (.loc 1 0 0)∧a[6]? =some (.int .i64 i)) l.length ?_ (by omega) ?_
  ·simp(maxSteps:=1000000)(disch:=omega)only[push_cast,decide_not,decide_eq_true_eq,decide_eq_false_iff_not,bne_eq_false_iff_eq,beq_eq_false_iff_ne,gt_iff_lt,ne_eq,not_true_eq_false,not_false_eq_true,hal,h0,h1,Int.natCast_zero,↓WX,simprocAttr]
  clear hal h0 h1 a
  rintro i a T hi ⟨rfl,hal,h1,h2,h4,h6⟩
  rcases Nat.lt_or_eq_of_le hi with hlt |rfl
  case inr=>
   simp(maxSteps:=1000000)(disch:=omega)only[push_cast,decide_not,decide_eq_true_eq,decide_eq_false_iff_not,bne_eq_false_iff_eq,beq_eq_false_iff_ne,gt_iff_lt,ne_eq,not_true_eq_false,not_false_eq_true,hal,h1,h2,h4,h6,Int.lt_irrefl,Tryz.f84,↓WX,simprocAttr]
   exact⟨_,_,rfl,rfl⟩
  obtain⟨x,hx⟩:∃x,l[i]? =some x:=⟨l[i],by simp⟩
  have hltc:(i:Int)<l.length:=by omega
  by_cases q:x.num=k
  ·simp(maxSteps:=1000000)(disch:=omega)only[push_cast,decide_not,decide_eq_true_eq,decide_eq_false_iff_not,bne_eq_false_iff_eq,beq_eq_false_iff_ne,gt_iff_lt,ne_eq,not_true_eq_false,not_false_eq_true,hal,h1,h2,h4,h6,hltc,hlt,hx,q,Rou.enc,Tryz.f84,↓WX,simprocAttr]
   exact⟨_,_,rfl,by simp only[D.pure,pureL_cons,pureL_nil,encLk_pure,Bool.and_true,Bool.and_self]⟩
  ·simp(maxSteps:=1000000)(disch:=omega)only[push_cast,decide_not,decide_eq_true_eq,decide_eq_false_iff_not,bne_eq_false_iff_eq,beq_eq_false_iff_ne,gt_iff_lt,ne_eq,not_true_eq_false,not_false_eq_true,hal,h1,h2,h4,h6,hltc,hlt,hx,q,Rou.enc,decide_false,wrap_ok,Int.natCast_add,Int.natCast_one,↓WX,simprocAttr]
 obtain⟨_,T,ho,d,b,rfl,hd⟩:=this
 exact⟨d,b,fun st S=>callD_pure rfl (by simp only[pureL_cons,pureL_nil,D.pure,hf,hr,ht,Rous_pure,Bool.and_true,Bool.and_self]) ho (freeze_pure (by simp only[D.pure,pureL_cons,pureL_nil,hd,Bool.and_true]))⟩
end
end Go.Proofs.YtaklebjoenophaaGreat.Dm
namespace Go.Proofs.YtaklebjoenophaaGreat.Dm
open Go Gw
set_option linter.unusedSimpArgs false
set_option linter.unusedSimpArgs false
structure Rul where
 num:Int
 when:Cnd
 comb:List Int
 combx:Bool
 mins:Int
 maxs:Int
 chg:Int
 ref:Int
 pcs:List (ByteArray×Int)
 pcx:Bool
def Rul.enc (r:Rul):List D:=.int .i64 r.num::(r.when.enc++[.sl 1 (r.comb.map encZ) r.combx,.int .i64 r.mins,.int .i64 r.maxs,.int .i64 r.chg,.int .i64 r.ref,.sl 2 (r.pcs.map encPc) r.pcx])
theorem pureL_join (a b:List D) (h:pureL a=true) (g:pureL b=true):pureL (a++b)=true:=by
 induction a with
 |nil=>exact g
 |cons x a ih=>
  rw[pureL_cons,Bool.and_eq_true]at h
  rw[List.cons_append,pureL_cons,h.1,ih h.2];rfl
theorem Rul_pure (r:Rul):pureL r.enc=true:=by
 have h:=pureL_join r.when.enc [.sl 1 (r.comb.map encZ) r.combx,.int .i64 r.mins,.int .i64 r.maxs,.int .i64 r.chg,.int .i64 r.ref,.sl 2 (r.pcs.map encPc) r.pcx] (Cnd.pure _) (by simp only[D.pure,pureL_cons,pureL_nil,Bool.and_true,Bool.and_self,encZ_pure,encPc_pure])
 rw[Rul.enc,pureL_cons,h];rfl
theorem Ruls_pure (l:List Rul):pureLL (l.map Rul.enc)=true:=by
 induction l with
 |nil=>rfl
 |cons f fs ih=>rw[List.map_cons,pureLL_cons,ih,Rul_pure];rfl
section
variable {n : Nat}
set_option maxHeartbeats 4000000 in
set_option maxRecDepth 100000 in
theorem Rule24_c (fe oe te:List (List D)) (fx ox tx:Bool) (l:List Rul) (lx:Bool) (hf:pureLL fe=true) (hr:pureLL oe=true) (ht:pureLL te=true) (hl:l.length≤1048576) (hn:1048580≤n) (k:Int):∃(cs:List D) (b:Bool),cs.length=15∧cs.all D.one=true∧∀st S,callD E (dcall E n) st S 81 [.agg [.sl 9 fe fx,.sl 15 (l.map Rul.enc) lx,.sl 3 oe ox,.sl 7 te tx],.int .i64 k]=some (.tup [.agg cs,.bool b],S):=by
 obtain⟨m,rfl⟩:∃m,n=m+1:=⟨n-1,by omega⟩
 have:WO (dcall E (m+1) 81 [.agg [.sl 9 fe fx,.sl 15 (l.map Rul.enc) lx,.sl 3 oe ox,.sl 7 te tx],.int .i64 k] []) fun r T=>∃cs b,r=.tup [.agg cs,.bool b]∧pureL cs=true∧cs.length=15∧cs.all D.one=true:=by
  refine wo_dcall Tryz.func81 rfl (by decide) rfl 28 rfl (fun a hal ha=>?_)
  have h0:a[0]? =some (.agg [.sl 9 fe fx,.sl 15 (l.map Rul.enc) lx,.sl 3 oe ox,.sl 7 te tx]):=ha 0 (by simp)
  have h1:a[1]? =some (.int .i64 k):=ha 1 (by simp)
  clear ha
  simp(maxSteps:=1000000)(disch:=omega)only[push_cast,decide_not,decide_eq_true_eq,decide_eq_false_iff_not,bne_eq_false_iff_eq,beq_eq_false_iff_ne,gt_iff_lt,ne_eq,not_true_eq_false,not_false_eq_true,hal,h0,h1,↓WX,simprocAttr]
  refine wl_loop (fun i a T=>T=[Ob.row 4 [[.sl 9 fe fx,.sl 15 (l.map Rul.enc) lx,.sl 3 oe ox,.sl 7 te tx]],Ob.row 15 [[.int .i64 0,.int .i64 0,.nils,.int .i64 0,.int .i64 0,.int .i64 0,.int .i64 0,.int .i64 0,.nils,.nils,.int .i64 0,.int .i64 0,.int .i64 0,.int .i64 0,.nils]]]∧a.length=28∧a[1]? =some (.int .i64 k)∧a[2]? =some (.loc 0 0 0)∧a[4]? =some (.loc 1 0 0)∧a[6]? =some (.int .i64 i)) l.length ?_ (by omega) ?_
  ·simp(maxSteps:=1000000)(disch:=omega)only[push_cast,decide_not,decide_eq_true_eq,decide_eq_false_iff_not,bne_eq_false_iff_eq,beq_eq_false_iff_ne,gt_iff_lt,ne_eq,not_true_eq_false,not_false_eq_true,hal,h0,h1,Int.natCast_zero,↓WX,simprocAttr]
  clear hal h0 h1 a
  rintro i a T hi ⟨rfl,hal,h1,h2,h4,h6⟩
  rcases Nat.lt_or_eq_of_le hi with hlt |rfl
  case inr=>
   simp(maxSteps:=1000000)(disch:=omega)only[push_cast,decide_not,decide_eq_true_eq,decide_eq_false_iff_not,bne_eq_false_iff_eq,beq_eq_false_iff_ne,gt_iff_lt,ne_eq,not_true_eq_false,not_false_eq_true,hal,h1,h2,h4,h6,Int.lt_irrefl,Tryz.f81,↓WX,simprocAttr]
   exact⟨_,_,rfl,rfl,rfl,rfl⟩
  obtain⟨x,hx⟩:∃x,l[i]? =some x:=⟨l[i],by simp⟩
  have hltc:(i:Int)<l.length:=by omega
  have hxp:=Rul_pure x
  obtain⟨w,hw⟩:∃w,x.when=w:=⟨_,rfl⟩
  have hxe:Rul.enc x=.int .i64 x.num::(w.enc++[.sl 1 (x.comb.map encZ) x.combx,.int .i64 x.mins,.int .i64 x.maxs,.int .i64 x.chg,.int .i64 x.ref,.sl 2 (x.pcs.map encPc) x.pcx]):=by rw[←hw];rfl
  cases w with |mk k' l' lx' u' v' pf' pt' pd' t' tx'=>?_
  rw[hxe]at hxp
  simp only[Cnd.enc,List.cons_append,List.nil_append]at hxe hxp
  by_cases q:x.num=k
  ·simp(maxSteps:=1000000)(disch:=omega)only[push_cast,decide_not,decide_eq_true_eq,decide_eq_false_iff_not,bne_eq_false_iff_eq,beq_eq_false_iff_ne,gt_iff_lt,ne_eq,not_true_eq_false,not_false_eq_true,hal,h1,h2,h4,h6,hltc,hlt,hx,q,hxe,Tryz.f81,↓WX,simprocAttr]
   exact⟨_,_,rfl,hxp,rfl,rfl⟩
  ·simp(maxSteps:=1000000)(disch:=omega)only[push_cast,decide_not,decide_eq_true_eq,decide_eq_false_iff_not,bne_eq_false_iff_eq,beq_eq_false_iff_ne,gt_iff_lt,ne_eq,not_true_eq_false,not_false_eq_true,hal,h1,h2,h4,h6,hltc,hlt,hx,q,hxe,decide_false,wrap_ok,Int.natCast_add,Int.natCast_one,↓WX,simprocAttr]
 obtain⟨_,T,ho,cs,b,rfl,hd,hl,ho1⟩:=this
 exact⟨cs,b,hl,ho1,fun st S=>callD_pure rfl (by simp only[pureL_cons,pureL_nil,D.pure,hf,hr,ht,Ruls_pure,Bool.and_true,Bool.and_self]) ho (freeze_pure (by simp only[D.pure,pureL_cons,pureL_nil,hd,Bool.and_true]))⟩
end
end Go.Proofs.YtaklebjoenophaaGreat.Dm
namespace Go.Proofs.YtaklebjoenophaaGreat.Dm
open Go Gw
set_option linter.unusedSimpArgs false
set_option linter.unusedSimpArgs false
theorem app_r {T:List Ob} {d x:D} {fs:List (Int×ByteArray)} {z m:Nat} (h:GL 2 encF T d fs) (hz:∀f∈fs,f.2.size≤z) (hx:FR x m z) (hl:fs.length+m≤4999999999999):
  ∃d' T' fs',dAppend Tryz.prog T 51 51 d x=some (d',T')∧GL 2 encF T' d' fs'∧fs'.length≤fs.length+m∧(∀f∈fs',f.2.size≤z)∧KeepF T T':=by
 obtain⟨gs,hg,h1,h2⟩:=hx
 obtain⟨d',T',p,g,k⟩:=app_fls h (show FLs 2 encF x gs from hg) (by omega)
 refine⟨d',T',_,p,g,by rw[List.length_append];omega,fun f hf=>?_,k⟩
 rcases List.mem_append.1 hf with hf |hf
 ·exact hz f hf
 ·exact h2 f hf
theorem not_faultN {n:Nat} {es:List (List D)} (h:n≠2):¬FaultOb (.row n es):=by
 rintro⟨fs,e⟩
 injection e with e
 exact h e
section
variable {n : Nat}
set_option maxHeartbeats 16000000 in
set_option maxRecDepth 100000 in
theorem Check21_d {nu k u v pf pt pd mi ma ch re:Int} {l:List Cnd} {lx tx cx px:Bool} {t:List ByteArray} {cb:List Int} {pc:List (ByteArray×Int)} (hw:(Cnd.mk k l lx u v pf pt pd t tx).Wf) (hb:bulkL (Cnd.mk k l lx u v pf pt pd t tx).enc≤1048576) (hc:cb.length≤1048576) (hp:pc.length≤1048576) (hz:∀p∈pc,p.1.size≤1048576) (hn:3200000≤n):
  WO (dcall E (n+1) 46 [.agg [.int .i64 nu,.int .i64 k,.sl 8 (Cnd.encs l) lx,.int .i64 u,.int .i64 v,.int .i64 pf,.int .i64 pt,.int .i64 pd,.sl 1 (t.map Cnd.encT) tx,.sl 1 (cb.map encZ) cx,.int .i64 mi,.int .i64 ma,.int .i64 ch,.int .i64 re,.sl 2 (pc.map encPc) px]] []) fun d T=>∃fs,GL 2 encF T d fs∧fs.length≤6000000∧∀f∈fs,f.2.size≤30:=by
 obtain⟨e0,ce⟩:=Check20_c (n:=n) _ hw hb (by omega)
 obtain⟨dl,fl,cl⟩:=list21_c (n:=n) (l:=cb) (lx:=cx) hc (by omega)
 obtain⟨dp,fp,cp⟩:=percents21_c (n:=n) (l:=pc) (lx:=px) hp hz (by omega)
 simp only[Cnd.enc]at ce
 clear hw hb
 generalize Cnd.encs l=le at*
 generalize t.map Cnd.encT=te at*
 generalize cb.map encZ=ze at*
 generalize pc.map encPc=pe at*
 refine wo_dcall Tryz.func46 rfl (by decide) rfl 95 rfl (fun a hal ha=>?_)
 have h0:a[0]? =some (.agg [.int .i64 nu,.int .i64 k,.sl 8 le lx,.int .i64 u,.int .i64 v,.int .i64 pf,.int .i64 pt,.int .i64 pd,.sl 1 te tx,.sl 1 ze cx,.int .i64 mi,.int .i64 ma,.int .i64 ch,.int .i64 re,.sl 2 pe px]):=ha 0 (by simp)
 clear ha
 obtain⟨rw0,hrw⟩:∃rw0,rw0=Ob.row 15 [[.int .i64 nu,.int .i64 k,.sl 8 le lx,.int .i64 u,.int .i64 v,.int .i64 pf,.int .i64 pt,.int .i64 pd,.sl 1 te tx,.sl 1 ze cx,.int .i64 mi,.int .i64 ma,.int .i64 ch,.int .i64 re,.sl 2 pe px]]:=⟨_,rfl⟩
 have hnf:¬FaultOb rw0:=by rw[hrw];exact not_faultN (by decide)
 obtain⟨S0,hS0⟩:∃S0,S0=[rw0]:=⟨_,rfl⟩
 have g0:S0[0]? =some rw0:=by rw[hS0];rfl
 refine wc_scut (fun a V=>V=S0∧a.length=95∧a[1]? =some (.loc 0 0 0)) ?_ ?_
 ·rw[hS0,hrw]
  simp(maxSteps:=1000000)(disch:=omega)only[push_cast,decide_not,decide_eq_true_eq,decide_eq_false_iff_not,bne_eq_false_iff_eq,beq_eq_false_iff_ne,gt_iff_lt,ne_eq,not_true_eq_false,not_false_eq_true,hal,h0,↓WX,simprocAttr]
 clear hal h0 a
 rintro a V ⟨rfl,hal,h1⟩
 refine wc_scut (fun a W=>W=V∧a.length=95∧a[1]? =some (.loc 0 0 0)∧a[3]? =some (.nils)) ?_ ?_
 ·simp(maxSteps:=1000000)(disch:=omega)only[push_cast,decide_not,decide_eq_true_eq,decide_eq_false_iff_not,bne_eq_false_iff_eq,beq_eq_false_iff_ne,gt_iff_lt,ne_eq,not_true_eq_false,not_false_eq_true,hal,h1,↓WX,simprocAttr]
 clear hal h1 a
 rintro a W ⟨rfl,hal,h1,h3⟩
 refine wc_scut (fun a V'=>(KeepF W V'∧FS V' a[3]? 1 30)∧a.length=95∧a[1]? =some (.loc 0 0 0)) ?_ ?_
 ·obtain⟨d1,T1,fs1,p1,q1,g1,l1,z1,k1⟩:=app_s (T:=W) (d:=.nils) (fs:=[]) (z:=30) GL.nil (by simp) (fun f h=>by cases h) true 2 (ByteArray.mk #[110,117,109,98,101,114]) (by decide)
  replace p1:=p1 rfl
  rw[hrw]at g0
  by_cases c1:nu<1
  ·simp(maxSteps:=1000000)(disch:=omega)only[push_cast,decide_not,decide_eq_true_eq,decide_eq_false_iff_not,bne_eq_false_iff_eq,beq_eq_false_iff_ne,gt_iff_lt,ne_eq,not_true_eq_false,not_false_eq_true,hal,h1,h3,g0,c1,p1,FS,↓WX,simprocAttr]
   exact⟨k1,_,_,rfl,g1,by simpa using l1,z1⟩
  by_cases c2:9999<nu
  ·simp(maxSteps:=1000000)(disch:=omega)only[push_cast,decide_not,decide_eq_true_eq,decide_eq_false_iff_not,bne_eq_false_iff_eq,beq_eq_false_iff_ne,gt_iff_lt,ne_eq,not_true_eq_false,not_false_eq_true,hal,h1,h3,g0,c1,c2,p1,FS,↓WX,simprocAttr]
   exact⟨k1,_,_,rfl,g1,by simpa using l1,z1⟩
  simp(maxSteps:=1000000)(disch:=omega)only[push_cast,decide_not,decide_eq_true_eq,decide_eq_false_iff_not,bne_eq_false_iff_eq,beq_eq_false_iff_ne,gt_iff_lt,ne_eq,not_true_eq_false,not_false_eq_true,hal,h1,h3,g0,c1,c2,FS,↓WX,simprocAttr]
  exact⟨KeepF.refl,_,[],rfl,GL.nil,by simp,fun f h=>by cases h⟩
 clear hal h1 h3 a
 rintro a V1 ⟨⟨k1,d1,fs1,h3,g1,l1,z1⟩,hal,h1⟩
 have v1:=k1 _ _ hnf g0
 refine wc_scut (fun a V'=>V'=V1∧a.length=95∧a[1]? =some (.loc 0 0 0)∧a[3]? =some (d1)∧a[4]? =some (.int .i64 e0)) ?_ ?_
 ·rw[hrw]at v1
  simp(maxSteps:=1000000)(disch:=omega)only[push_cast,decide_not,decide_eq_true_eq,decide_eq_false_iff_not,bne_eq_false_iff_eq,beq_eq_false_iff_ne,gt_iff_lt,ne_eq,not_true_eq_false,not_false_eq_true,hal,h1,h3,v1,ce,↓WX,simprocAttr]
 clear hal h1 h3 a
 rintro a V' ⟨rfl,hal,h1,h3,h4⟩
 refine wc_scut (fun a V2=>(KeepF V' V2∧FS V2 a[3]? 2 30)∧a.length=95∧a[1]? =some (.loc 0 0 0)) ?_ ?_
 ·obtain⟨d2,T2,fs2,p2,q2,g2,l2,z2,k2⟩:=app_s g1 (by omega) z1 true e0 (ByteArray.mk #[119,104,101,110]) (by decide)
  replace p2:=p2 rfl
  by_cases c1:e0=0
  ·subst c1
   simp(maxSteps:=1000000)(disch:=omega)only[push_cast,decide_not,decide_eq_true_eq,decide_eq_false_iff_not,bne_eq_false_iff_eq,beq_eq_false_iff_ne,gt_iff_lt,ne_eq,not_true_eq_false,not_false_eq_true,hal,h1,h3,h4,decide_true,Bool.not_true,FS,↓WX,simprocAttr]
   exact⟨KeepF.refl,_,_,rfl,g1,by omega,z1⟩
  simp(maxSteps:=1000000)(disch:=omega)only[push_cast,decide_not,decide_eq_true_eq,decide_eq_false_iff_not,bne_eq_false_iff_eq,beq_eq_false_iff_ne,gt_iff_lt,ne_eq,not_true_eq_false,not_false_eq_true,hal,h1,h3,h4,c1,p2,decide_false,Bool.not_false,FS,↓WX,simprocAttr]
  exact⟨k2,_,_,rfl,g2,by omega,z2⟩
 clear hal h1 h3 h4 a
 rintro a V2 ⟨⟨k2,d2,fs2,h3,g2,l2,z2⟩,hal,h1⟩
 have v2:=k2 _ _ hnf v1
 refine wc_scut (fun a V'=>(KeepF V2 V'∧FS V' a[3]? 2100000 30)∧a.length=95∧a[1]? =some (.loc 0 0 0)) ?_ ?_
 ·obtain⟨d3,T3,fs3,p3,g3,l3,z3,k3⟩:=app_r g2 z2 fl (by omega)
  rw[hrw]at v2
  simp(maxSteps:=1000000)(disch:=omega)only[push_cast,decide_not,decide_eq_true_eq,decide_eq_false_iff_not,bne_eq_false_iff_eq,beq_eq_false_iff_ne,gt_iff_lt,ne_eq,not_true_eq_false,not_false_eq_true,hal,h1,h3,v2,cl,p3,FS,↓WX,simprocAttr]
  exact⟨k3,_,_,rfl,g3,by omega,z3⟩
 clear hal h1 h3 a
 rintro a V3 ⟨⟨k3,d3,fs3,h3,g3,l3,z3⟩,hal,h1⟩
 have v3:=k3 _ _ hnf v2
 refine wc_scut (fun a V'=>(KeepF V3 V'∧FS V' a[3]? 2100001 30)∧a.length=95∧a[1]? =some (.loc 0 0 0)) ?_ ?_
 ·obtain⟨d4,T4,fs4,p4,q4,g4,l4,z4,k4⟩:=app_s g3 (by omega) z3 true 2 (ByteArray.mk #[115,116,97,121]) (by decide)
  replace p4:=p4 rfl
  rw[hrw]at v3
  by_cases c1:mi<0
  ·simp(maxSteps:=1000000)(disch:=omega)only[push_cast,decide_not,decide_eq_true_eq,decide_eq_false_iff_not,bne_eq_false_iff_eq,beq_eq_false_iff_ne,gt_iff_lt,ne_eq,not_true_eq_false,not_false_eq_true,hal,h1,h3,v3,c1,p4,FS,↓WX,simprocAttr]
   exact⟨k4,_,_,rfl,g4,by omega,z4⟩
  by_cases c2:400<mi
  ·simp(maxSteps:=1000000)(disch:=omega)only[push_cast,decide_not,decide_eq_true_eq,decide_eq_false_iff_not,bne_eq_false_iff_eq,beq_eq_false_iff_ne,gt_iff_lt,ne_eq,not_true_eq_false,not_false_eq_true,hal,h1,h3,v3,c1,c2,p4,FS,↓WX,simprocAttr]
   exact⟨k4,_,_,rfl,g4,by omega,z4⟩
  by_cases c3:ma<0
  ·simp(maxSteps:=1000000)(disch:=omega)only[push_cast,decide_not,decide_eq_true_eq,decide_eq_false_iff_not,bne_eq_false_iff_eq,beq_eq_false_iff_ne,gt_iff_lt,ne_eq,not_true_eq_false,not_false_eq_true,hal,h1,h3,v3,c1,c2,c3,p4,FS,↓WX,simprocAttr]
   exact⟨k4,_,_,rfl,g4,by omega,z4⟩
  by_cases c4:400<ma
  ·simp(maxSteps:=1000000)(disch:=omega)only[push_cast,decide_not,decide_eq_true_eq,decide_eq_false_iff_not,bne_eq_false_iff_eq,beq_eq_false_iff_ne,gt_iff_lt,ne_eq,not_true_eq_false,not_false_eq_true,hal,h1,h3,v3,c1,c2,c3,c4,p4,FS,↓WX,simprocAttr]
   exact⟨k4,_,_,rfl,g4,by omega,z4⟩
  simp(maxSteps:=1000000)(disch:=omega)only[push_cast,decide_not,decide_eq_true_eq,decide_eq_false_iff_not,bne_eq_false_iff_eq,beq_eq_false_iff_ne,gt_iff_lt,ne_eq,not_true_eq_false,not_false_eq_true,hal,h1,h3,v3,c1,c2,c3,c4,FS,↓WX,simprocAttr]
  exact⟨KeepF.refl,_,_,rfl,g3,by omega,z3⟩
 clear hal h1 h3 a
 rintro a V4 ⟨⟨k4,d4,fs4,h3,g4,l4,z4⟩,hal,h1⟩
 have v4:=k4 _ _ hnf v3
 refine wc_scut (fun a V'=>(KeepF V4 V'∧FS V' a[3]? 2100002 30)∧a.length=95∧a[1]? =some (.loc 0 0 0)) ?_ ?_
 ·obtain⟨d5,T5,fs5,p5,q5,g5,l5,z5,k5⟩:=app_s g4 (by omega) z4 true 24 (ByteArray.mk #[115,116,97,121]) (by decide)
  replace p5:=p5 rfl
  rw[hrw]at v4
  by_cases c1:0<ma
  ·by_cases c2:ma<mi
   ·simp(maxSteps:=1000000)(disch:=omega)only[push_cast,decide_not,decide_eq_true_eq,decide_eq_false_iff_not,bne_eq_false_iff_eq,beq_eq_false_iff_ne,gt_iff_lt,ne_eq,not_true_eq_false,not_false_eq_true,hal,h1,h3,v4,c1,c2,p5,FS,↓WX,simprocAttr]
    exact⟨k5,_,_,rfl,g5,by omega,z5⟩
   simp(maxSteps:=1000000)(disch:=omega)only[push_cast,decide_not,decide_eq_true_eq,decide_eq_false_iff_not,bne_eq_false_iff_eq,beq_eq_false_iff_ne,gt_iff_lt,ne_eq,not_true_eq_false,not_false_eq_true,hal,h1,h3,v4,c1,c2,FS,↓WX,simprocAttr]
   exact⟨KeepF.refl,_,_,rfl,g4,by omega,z4⟩
  simp(maxSteps:=1000000)(disch:=omega)only[push_cast,decide_not,decide_eq_true_eq,decide_eq_false_iff_not,bne_eq_false_iff_eq,beq_eq_false_iff_ne,gt_iff_lt,ne_eq,not_true_eq_false,not_false_eq_true,hal,h1,h3,v4,c1,FS,↓WX,simprocAttr]
  exact⟨KeepF.refl,_,_,rfl,g4,by omega,z4⟩
 clear hal h1 h3 a
 rintro a V5 ⟨⟨k5,d5,fs5,h3,g5,l5,z5⟩,hal,h1⟩
 have v5:=k5 _ _ hnf v4
 refine wc_scut (fun a V'=>(KeepF V5 V'∧FS V' a[3]? 2100003 30)∧a.length=95∧a[1]? =some (.loc 0 0 0)) ?_ ?_
 ·obtain⟨d6,T6,fs6,p6,q6,g6,l6,z6,k6⟩:=app_s g5 (by omega) z5 true 2 (ByteArray.mk #[102,101,101,115]) (by decide)
  replace p6:=p6 rfl
  rw[hrw]at v5
  by_cases c1:ch< -1
  ·simp(maxSteps:=1000000)(disch:=omega)only[push_cast,decide_not,decide_eq_true_eq,decide_eq_false_iff_not,bne_eq_false_iff_eq,beq_eq_false_iff_ne,gt_iff_lt,ne_eq,not_true_eq_false,not_false_eq_true,hal,h1,h3,v5,c1,p6,FS,↓WX,simprocAttr]
   exact⟨k6,_,_,rfl,g6,by omega,z6⟩
  by_cases c2:1099511627776<ch
  ·simp(maxSteps:=1000000)(disch:=omega)only[push_cast,decide_not,decide_eq_true_eq,decide_eq_false_iff_not,bne_eq_false_iff_eq,beq_eq_false_iff_ne,gt_iff_lt,ne_eq,not_true_eq_false,not_false_eq_true,hal,h1,h3,v5,c1,c2,p6,FS,↓WX,simprocAttr]
   exact⟨k6,_,_,rfl,g6,by omega,z6⟩
  by_cases c3:re< -1
  ·simp(maxSteps:=1000000)(disch:=omega)only[push_cast,decide_not,decide_eq_true_eq,decide_eq_false_iff_not,bne_eq_false_iff_eq,beq_eq_false_iff_ne,gt_iff_lt,ne_eq,not_true_eq_false,not_false_eq_true,hal,h1,h3,v5,c1,c2,c3,p6,FS,↓WX,simprocAttr]
   exact⟨k6,_,_,rfl,g6,by omega,z6⟩
  by_cases c4:1099511627776<re
  ·simp(maxSteps:=1000000)(disch:=omega)only[push_cast,decide_not,decide_eq_true_eq,decide_eq_false_iff_not,bne_eq_false_iff_eq,beq_eq_false_iff_ne,gt_iff_lt,ne_eq,not_true_eq_false,not_false_eq_true,hal,h1,h3,v5,c1,c2,c3,c4,p6,FS,↓WX,simprocAttr]
   exact⟨k6,_,_,rfl,g6,by omega,z6⟩
  simp(maxSteps:=1000000)(disch:=omega)only[push_cast,decide_not,decide_eq_true_eq,decide_eq_false_iff_not,bne_eq_false_iff_eq,beq_eq_false_iff_ne,gt_iff_lt,ne_eq,not_true_eq_false,not_false_eq_true,hal,h1,h3,v5,c1,c2,c3,c4,FS,↓WX,simprocAttr]
  exact⟨KeepF.refl,_,_,rfl,g5,by omega,z5⟩
 clear hal h1 h3 a
 rintro a V6 ⟨⟨k6,d6,fs6,h3,g6,l6,z6⟩,hal,h1⟩
 have v6:=k6 _ _ hnf v5
 obtain⟨d7,T7,fs7,p7,g7,l7,z7,k7⟩:=app_r g6 z6 fp (by omega)
 rw[hrw]at v6
 simp(maxSteps:=1000000)(disch:=omega)only[push_cast,decide_not,decide_eq_true_eq,decide_eq_false_iff_not,bne_eq_false_iff_eq,beq_eq_false_iff_ne,gt_iff_lt,ne_eq,not_true_eq_false,not_false_eq_true,hal,h1,h3,v6,cp,p7,Tryz.f46,↓WX,simprocAttr]
 exact⟨_,g7,by omega,z7⟩
structure RulB (r:Rul):Prop where
 wf:r.when.Wf
 cnd:bulkL r.when.enc≤1048576
 cmb:r.comb.length≤1048576
 pcl:r.pcs.length≤1048576
 pcb:∀p∈r.pcs,p.1.size≤1048576
theorem Check21_c {r:Rul} (h:RulB r) (hn:3200001≤n):∃d,FR d 6000000 30∧∀st S,callD E (dcall E n) st S 46 [.agg r.enc]=some (d,S):=by
 obtain⟨m,rfl⟩:∃m,n=m+1:=⟨n-1,by omega⟩
 have hp:=Rul_pure r
 obtain⟨nu,w,cb,cx,mi,ma,ch,re,pc,px⟩:=r
 cases w with |mk k l lx u v pf pt pd t tx=>?_
 obtain⟨h1,h2,h3,h4,h5⟩:=h
 obtain⟨d,T,ho,fs,hg,g1,g2⟩:=Check21_d (n:=m) (nu:=nu) (mi:=mi) (ma:=ma) (ch:=ch) (re:=re) (cx:=cx) (px:=px) h1 h2 h3 h4 h5 (by omega)
 obtain⟨d',f,hf⟩:=GL_fz hg
 exact⟨d',⟨fs,hf,g1,g2⟩,fun st S=>callD_pure rfl (by rw[pureL_cons,D.pure,hp];rfl) ho f⟩
end
end Go.Proofs.YtaklebjoenophaaGreat.Dm
