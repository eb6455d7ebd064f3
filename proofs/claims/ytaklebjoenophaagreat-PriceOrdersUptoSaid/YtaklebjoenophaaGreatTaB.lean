/-
  The reference's check of taxes: some list.
  The reference's check of a routing: some list.
-/
import Derived.Test.YtaklebjoenophaaGreatRuB
set_option linter.unusedSimpArgs false
set_option linter.unusedVariables false
namespace Go.Proofs.YtaklebjoenophaaGreat.Dm
open Go Gw
set_option linter.unusedSimpArgs false
set_option linter.unusedSimpArgs false
theorem not_fault7 {es:List (List D)}:¬FaultOb (.row 7 es):=by
 rintro⟨fs,e⟩
 injection e with e
 cases e
structure TxB (x:Tx):Prop where
 code:x.code.size≤1048576
 land:x.land.size≤1048576
 frs:∀s∈x.free,s.size≤1048576
 frl:x.free.length≤1048576
section
variable {n : Nat}
set_option maxHeartbeats 8000000 in
set_option maxRecDepth 100000 in
theorem Check27_d {l:List Tx} {lx:Bool} (hl:l.length≤1048576) (hz:∀x∈l,TxB x) (hn:1048700≤n):
  WO (dcall E (n+1) 22 [.sl 7 (l.map Tx.enc) lx] []) fun d T=>∃fs,GL 2 encF T d fs∧fs.length≤3*l.length∧∀f∈fs,f.2.size≤30:=by
 refine wo_dcall Tryz.func22 rfl (by decide) rfl 78 rfl (fun a hal ha=>?_)
 have h0:a[0]? =some (.sl 7 (l.map Tx.enc) lx):=ha 0 (by simp)
 clear ha
 simp(maxSteps:=1000000)(disch:=omega)only[push_cast,decide_not,decide_eq_true_eq,decide_eq_false_iff_not,bne_eq_false_iff_eq,beq_eq_false_iff_ne,gt_iff_lt,ne_eq,not_true_eq_false,not_false_eq_true,hal,h0,↓WX,simprocAttr]
 refine wl_loop (fun i a T=>FS T a[3]? (3*i) 30∧a.length=78∧a[0]? =some (.sl 7 (l.map Tx.enc) lx)∧a[4]? =some (.int .i64 i)) l.length ?_ (by omega) ?_
 ·simp(maxSteps:=1000000)(disch:=omega)only[push_cast,decide_not,decide_eq_true_eq,decide_eq_false_iff_not,bne_eq_false_iff_eq,beq_eq_false_iff_ne,gt_iff_lt,ne_eq,not_true_eq_false,not_false_eq_true,hal,h0,Int.natCast_zero,FS,↓WX,simprocAttr]
  exact⟨_,_,rfl,GL.nil,Nat.zero_le _,fun f h=>by cases h⟩
 clear hal h0 a
 rintro i a T hi ⟨⟨d,fs,h3,hg,hfl,hfz⟩,hal,h0,h4⟩
 rcases Nat.lt_or_eq_of_le hi with hlt |rfl
 case inr=>
  simp(maxSteps:=1000000)(disch:=omega)only[push_cast,decide_not,decide_eq_true_eq,decide_eq_false_iff_not,bne_eq_false_iff_eq,beq_eq_false_iff_ne,gt_iff_lt,ne_eq,not_true_eq_false,not_false_eq_true,hal,h0,h3,h4,Int.lt_irrefl,Tryz.f22,↓WX,simprocAttr]
  exact⟨fs,hg,hfl,hfz⟩
 obtain⟨x,hx⟩:∃x,l[i]? =some x:=⟨l[i],by simp⟩
 have hxb:=hz x (List.mem_of_getElem? hx)
 have hltc:(i:Int)<l.length:=by omega
 obtain⟨q,hq,cq⟩:=Wb.rdecW (n:=n) (i:=i) (by omega) (by omega)
 have hsz:taxT.size=4:=rfl
 have mq:=mx_of (a:=taxT) (b:=q) (by omega)
 have hat:(taxT++q).size≤30:=by rw[ba_len];omega
 unfold taxT at mq
 obtain⟨bn,cn⟩:=named27_c (n:=n) x hxb.code hxb.land hxb.frs hxb.frl (by omega)
 obtain⟨vm,cm⟩:=most27_c (n:=n) (by omega) x.kind
 have hxe:x.enc=[.str x.code,.int .i64 x.kind,.str x.land,.int .i64 x.amount,.int .i64 x.scope,.int .i64 x.transit,.sl 1 (x.free.map Cnd.encT) x.freex]:=rfl
 rw[hxe]at cn
 obtain⟨S0,hS0⟩:∃S0,S0=T++[Ob.row 7 [[.str x.code,.int .i64 x.kind,.str x.land,.int .i64 x.amount,.int .i64 x.scope,.int .i64 x.transit,.sl 1 (x.free.map Cnd.encT) x.freex]]]:=⟨_,rfl⟩
 have g0:S0[T.length]? =some (.row 7 [[.str x.code,.int .i64 x.kind,.str x.land,.int .i64 x.amount,.int .i64 x.scope,.int .i64 x.transit,.sl 1 (x.free.map Cnd.encT) x.freex]]):=by rw[hS0];exact get_end
 have hg0:GL 2 encF S0 d fs:=by rw[hS0];exact hg.push _
 refine wc_scut (fun a V=>V=T∧a.length=78∧a[0]? =some (.sl 7 (l.map Tx.enc) lx)∧a[3]? =some (d)∧a[4]? =some (.int .i64 i)) ?_ ?_
 ·simp(maxSteps:=1000000)(disch:=omega)only[push_cast,decide_not,decide_eq_true_eq,decide_eq_false_iff_not,bne_eq_false_iff_eq,beq_eq_false_iff_ne,gt_iff_lt,ne_eq,not_true_eq_false,not_false_eq_true,hal,h0,h3,h4,hltc,↓WX,simprocAttr]
 clear hal h0 h3 h4 a
 rintro a V ⟨rfl,hal,h0,h3,h4⟩
 rw[wc_seq,wc_block]
 refine wc_scut (fun a W=>W=S0∧a.length=78∧a[0]? =some (.sl 7 (l.map Tx.enc) lx)∧a[3]? =some (d)∧a[4]? =some (.int .i64 i)∧a[5]? =some (.loc V.length 0 0)∧a[6]? =some (.str (taxT++q))) ?_ ?_
 ·unfold taxT
  simp(maxSteps:=1000000)(disch:=omega)only[push_cast,decide_not,decide_eq_true_eq,decide_eq_false_iff_not,bne_eq_false_iff_eq,beq_eq_false_iff_ne,gt_iff_lt,ne_eq,not_true_eq_false,not_false_eq_true,hal,h0,h3,h4,hlt,hx,cq,mq,set_end,get_end,Tx.enc,↓WX,simprocAttr]
  exact hS0.symm
 clear hal h0 h3 h4 a
 rintro a W ⟨rfl,hal,h0,h3,h4,h5,h6⟩
 generalize taxT++q=at0 at*
 refine wc_scut (fun a V'=>(KeepF W V'∧FS V' a[3]? (3*i+1) 30)∧a.length=78∧a[0]? =some (.sl 7 (l.map Tx.enc) lx)∧a[4]? =some (.int .i64 i)∧a[5]? =some (.loc V.length 0 0)∧a[6]? =some (.str at0)) ?_ ?_
 ·obtain⟨d1,T1,fs1,p1,q1,g1,l1,z1,k1⟩:=app_s hg0 (by omega) hfz (!bn) 5 at0 hat
  cases bn
  ·replace p1:=p1 rfl
   simp(maxSteps:=1000000)(disch:=omega)only[push_cast,decide_not,decide_eq_true_eq,decide_eq_false_iff_not,bne_eq_false_iff_eq,beq_eq_false_iff_ne,gt_iff_lt,ne_eq,not_true_eq_false,not_false_eq_true,hal,h0,h3,h4,h5,h6,g0,cn,p1,dUn,Bool.not_false,FS,↓WX,simprocAttr]
   exact⟨k1,_,_,rfl,g1,by omega,z1⟩
  ·simp(maxSteps:=1000000)(disch:=omega)only[push_cast,decide_not,decide_eq_true_eq,decide_eq_false_iff_not,bne_eq_false_iff_eq,beq_eq_false_iff_ne,gt_iff_lt,ne_eq,not_true_eq_false,not_false_eq_true,hal,h0,h3,h4,h5,h6,g0,cn,dUn,Bool.not_true,FS,↓WX,simprocAttr]
   exact⟨KeepF.refl,_,_,rfl,hg0,by omega,hfz⟩
 clear hal h0 h3 h4 h5 h6 a
 rintro a V1 ⟨⟨k1,d1,fs1,h3,g1,l1,z1⟩,hal,h0,h4,h5,h6⟩
 have v1:=k1 _ _ not_fault7 g0
 refine wc_scut (fun a V'=>(KeepF V1 V'∧FS V' a[3]? (3*i+2) 30)∧a.length=78∧a[0]? =some (.sl 7 (l.map Tx.enc) lx)∧a[4]? =some (.int .i64 i)∧a[5]? =some (.loc V.length 0 0)∧a[6]? =some (.str at0)) ?_ ?_
 ·obtain⟨d2,T2,fs2,p2,q2,g2,l2,z2,k2⟩:=app_s g1 (by omega) z1 true 8 at0 hat
  replace p2:=p2 rfl
  by_cases c1:x.kind<1
  ·simp(maxSteps:=1000000)(disch:=omega)only[push_cast,decide_not,decide_eq_true_eq,decide_eq_false_iff_not,bne_eq_false_iff_eq,beq_eq_false_iff_ne,gt_iff_lt,ne_eq,not_true_eq_false,not_false_eq_true,hal,h0,h3,h4,h5,h6,v1,c1,p2,FS,↓WX,simprocAttr]
   exact⟨k2,_,_,rfl,g2,by omega,z2⟩
  by_cases c2:4<x.kind
  ·simp(maxSteps:=1000000)(disch:=omega)only[push_cast,decide_not,decide_eq_true_eq,decide_eq_false_iff_not,bne_eq_false_iff_eq,beq_eq_false_iff_ne,gt_iff_lt,ne_eq,not_true_eq_false,not_false_eq_true,hal,h0,h3,h4,h5,h6,v1,c1,c2,p2,FS,↓WX,simprocAttr]
   exact⟨k2,_,_,rfl,g2,by omega,z2⟩
  simp(maxSteps:=1000000)(disch:=omega)only[push_cast,decide_not,decide_eq_true_eq,decide_eq_false_iff_not,bne_eq_false_iff_eq,beq_eq_false_iff_ne,gt_iff_lt,ne_eq,not_true_eq_false,not_false_eq_true,hal,h0,h3,h4,h5,h6,v1,c1,c2,FS,↓WX,simprocAttr]
  exact⟨KeepF.refl,_,_,rfl,g1,by omega,z1⟩
 clear hal h0 h3 h4 h5 h6 a
 rintro a V2 ⟨⟨k2,d2,fs2,h3,g2,l2,z2⟩,hal,h0,h4,h5,h6⟩
 have v2:=k2 _ _ not_fault7 v1
 obtain⟨d3,T3,fs3,p3,q3,g3,l3,z3,k3⟩:=app_s g2 (by omega) z2 true 2 at0 hat
 replace p3:=p3 rfl
 by_cases c1:x.amount<0
 ·simp(maxSteps:=1000000)(disch:=omega)only[push_cast,decide_not,decide_eq_true_eq,decide_eq_false_iff_not,bne_eq_false_iff_eq,beq_eq_false_iff_ne,gt_iff_lt,ne_eq,not_true_eq_false,not_false_eq_true,hal,h0,h3,h4,h5,h6,v2,c1,p3,FS,wrap_ok,Int.natCast_add,Int.natCast_one,↓WX,simprocAttr]
  exact⟨hlt,_,_,rfl,g3,by omega,z3⟩
 by_cases c2:vm<x.amount
 ·simp(maxSteps:=1000000)(disch:=omega)only[push_cast,decide_not,decide_eq_true_eq,decide_eq_false_iff_not,bne_eq_false_iff_eq,beq_eq_false_iff_ne,gt_iff_lt,ne_eq,not_true_eq_false,not_false_eq_true,hal,h0,h3,h4,h5,h6,v2,c1,c2,cm,p3,FS,wrap_ok,Int.natCast_add,Int.natCast_one,↓WX,simprocAttr]
  exact⟨hlt,_,_,rfl,g3,by omega,z3⟩
 by_cases c3:x.scope<0
 ·simp(maxSteps:=1000000)(disch:=omega)only[push_cast,decide_not,decide_eq_true_eq,decide_eq_false_iff_not,bne_eq_false_iff_eq,beq_eq_false_iff_ne,gt_iff_lt,ne_eq,not_true_eq_false,not_false_eq_true,hal,h0,h3,h4,h5,h6,v2,c1,c2,c3,cm,p3,FS,wrap_ok,Int.natCast_add,Int.natCast_one,↓WX,simprocAttr]
  exact⟨hlt,_,_,rfl,g3,by omega,z3⟩
 by_cases c4:2<x.scope
 ·simp(maxSteps:=1000000)(disch:=omega)only[push_cast,decide_not,decide_eq_true_eq,decide_eq_false_iff_not,bne_eq_false_iff_eq,beq_eq_false_iff_ne,gt_iff_lt,ne_eq,not_true_eq_false,not_false_eq_true,hal,h0,h3,h4,h5,h6,v2,c1,c2,c3,c4,cm,p3,FS,wrap_ok,Int.natCast_add,Int.natCast_one,↓WX,simprocAttr]
  exact⟨hlt,_,_,rfl,g3,by omega,z3⟩
 by_cases c5:x.transit<0
 ·simp(maxSteps:=1000000)(disch:=omega)only[push_cast,decide_not,decide_eq_true_eq,decide_eq_false_iff_not,bne_eq_false_iff_eq,beq_eq_false_iff_ne,gt_iff_lt,ne_eq,not_true_eq_false,not_false_eq_true,hal,h0,h3,h4,h5,h6,v2,c1,c2,c3,c4,c5,cm,p3,FS,wrap_ok,Int.natCast_add,Int.natCast_one,↓WX,simprocAttr]
  exact⟨hlt,_,_,rfl,g3,by omega,z3⟩
 by_cases c6:100000<x.transit
 ·simp(maxSteps:=1000000)(disch:=omega)only[push_cast,decide_not,decide_eq_true_eq,decide_eq_false_iff_not,bne_eq_false_iff_eq,beq_eq_false_iff_ne,gt_iff_lt,ne_eq,not_true_eq_false,not_false_eq_true,hal,h0,h3,h4,h5,h6,v2,c1,c2,c3,c4,c5,c6,cm,p3,FS,wrap_ok,Int.natCast_add,Int.natCast_one,↓WX,simprocAttr]
  exact⟨hlt,_,_,rfl,g3,by omega,z3⟩
 simp(maxSteps:=1000000)(disch:=omega)only[push_cast,decide_not,decide_eq_true_eq,decide_eq_false_iff_not,bne_eq_false_iff_eq,beq_eq_false_iff_ne,gt_iff_lt,ne_eq,not_true_eq_false,not_false_eq_true,hal,h0,h3,h4,h5,h6,v2,c1,c2,c3,c4,c5,c6,cm,FS,wrap_ok,Int.natCast_add,Int.natCast_one,↓WX,simprocAttr]
 exact⟨hlt,_,_,rfl,g2,by omega,z2⟩
theorem Check27_c {l:List Tx} {lx:Bool} (hl:l.length≤1048576) (hz:∀x∈l,TxB x) (hn:1048701≤n):∃d,FR d (3*l.length) 30∧∀st S,callD E (dcall E n) st S 22 [.sl 7 (l.map Tx.enc) lx]=some (d,S):=by
 obtain⟨m,rfl⟩:∃m,n=m+1:=⟨n-1,by omega⟩
 obtain⟨d,T,ho,fs,hg,h1,h2⟩:=Check27_d (n:=m) (lx:=lx) hl hz (by omega)
 obtain⟨d',f,hf⟩:=GL_fz hg
 exact⟨d',⟨fs,hf,h1,h2⟩,fun st S=>callD_pure rfl (by simp[pureL_cons,pureL_nil,D.pure,Txs_pure]) ho f⟩
end
end Go.Proofs.YtaklebjoenophaaGreat.Dm
namespace Go.Proofs.YtaklebjoenophaaGreat.Dm
open Go Gw
set_option linter.unusedSimpArgs false
set_option linter.unusedSimpArgs false
theorem not_fault3 {es:List (List D)}:¬FaultOb (.row 3 es):=by
 rintro⟨fs,e⟩
 injection e with e
 cases e
section
variable {n : Nat}
set_option maxHeartbeats 16000000 in
set_option maxRecDepth 100000 in
theorem Check22_d {nu mi:Int} {l:List (ByteArray×ByteArray)} {lx:Bool} (hl:l.length≤1048576) (hz:∀x∈l,x.1.size≤1048576∧x.2.size≤1048576) (hn:1048700≤n):
  WO (dcall E (n+1) 47 [.agg [.int .i64 nu,.sl 2 (l.map encLk) lx,.int .i64 mi]] []) fun d T=>∃fs,GL 2 encF T d fs∧fs.length≤400∧∀f∈fs,f.2.size≤30:=by
 refine wo_dcall Tryz.func47 rfl (by decide) rfl 101 rfl (fun a hal ha=>?_)
 have h0:a[0]? =some (.agg [.int .i64 nu,.sl 2 (l.map encLk) lx,.int .i64 mi]):=ha 0 (by simp)
 clear ha
 have hnf:¬FaultOb (.row 3 [[.int .i64 nu,.sl 2 (l.map encLk) lx,.int .i64 mi]]):=not_fault3
 obtain⟨S0,hS0⟩:∃S0,S0=[Ob.row 3 [[.int .i64 nu,.sl 2 (l.map encLk) lx,.int .i64 mi]]]:=⟨_,rfl⟩
 have g0:S0[0]? =some (.row 3 [[.int .i64 nu,.sl 2 (l.map encLk) lx,.int .i64 mi]]):=by rw[hS0];rfl
 refine wc_scut (fun a V=>V=S0∧a.length=101∧a[1]? =some (.loc 0 0 0)) ?_ ?_
 ·simp(maxSteps:=1000000)(disch:=omega)only[push_cast,decide_not,decide_eq_true_eq,decide_eq_false_iff_not,bne_eq_false_iff_eq,beq_eq_false_iff_ne,gt_iff_lt,ne_eq,not_true_eq_false,not_false_eq_true,hal,h0,↓WX,simprocAttr]
  exact hS0.symm
 clear hal h0 a
 rintro a V ⟨rfl,hal,h1⟩
 refine wc_scut (fun a W=>W=V∧a.length=101∧a[1]? =some (.loc 0 0 0)∧a[3]? =some (.nils)) ?_ ?_
 ·simp(maxSteps:=1000000)(disch:=omega)only[push_cast,decide_not,decide_eq_true_eq,decide_eq_false_iff_not,bne_eq_false_iff_eq,beq_eq_false_iff_ne,gt_iff_lt,ne_eq,not_true_eq_false,not_false_eq_true,hal,h1,↓WX,simprocAttr]
 clear hal h1 a
 rintro a W ⟨rfl,hal,h1,h3⟩
 refine wc_scut (fun a V'=>(KeepF W V'∧FS V' a[3]? 1 30)∧a.length=101∧a[1]? =some (.loc 0 0 0)) ?_ ?_
 ·obtain⟨d1,T1,fs1,p1,q1,g1,l1,z1,k1⟩:=app_s (T:=W) (d:=.nils) (fs:=[]) (z:=30) GL.nil (by simp) (fun f h=>by cases h) true 2 (ByteArray.mk #[110,117,109,98,101,114]) (by decide)
  replace p1:=p1 rfl
  by_cases c1:nu<1
  ·simp(maxSteps:=1000000)(disch:=omega)only[push_cast,decide_not,decide_eq_true_eq,decide_eq_false_iff_not,bne_eq_false_iff_eq,beq_eq_false_iff_ne,gt_iff_lt,ne_eq,not_true_eq_false,not_false_eq_true,hal,h1,h3,g0,c1,p1,FS,↓WX,simprocAttr]
   exact⟨k1,_,_,rfl,g1,by simpa using l1,z1⟩
  by_cases c2:9999<nu
  ·simp(maxSteps:=1000000)(disch:=omega)only[push_cast,decide_not,decide_eq_true_eq,decide_eq_false_iff_not,bne_eq_false_iff_eq,beq_eq_false_iff_ne,gt_iff_lt,ne_eq,not_true_eq_false,not_false_eq_true,hal,h1,h3,g0,c1,c2,p1,FS,↓WX,simprocAttr]
   exact⟨k1,_,_,rfl,g1,by simpa using l1,z1⟩
  simp(maxSteps:=1000000)(disch:=omega)only[push_cast,decide_not,decide_eq_true_eq,decide_eq_false_iff_not,bne_eq_false_iff_eq,beq_eq_false_iff_ne,gt_iff_lt,ne_eq,not_true_eq_false,not_false_eq_true,hal,h1,h3,g0,c1,c2,FS,↓WX,simprocAttr]
  exact⟨KeepF.refl,_,[],rfl,GL.nil,by simp,fun f h=>by cases h⟩
 clear hal h1 h3 a
 rintro a V1 ⟨⟨k1,d1,fs1,h3,g1,l1,z1⟩,hal,h1⟩
 have v1:=k1 _ _ hnf g0
 refine wc_scut (fun a V'=>(KeepF V1 V'∧FS V' a[3]? 2 30)∧a.length=101∧a[1]? =some (.loc 0 0 0)) ?_ ?_
 ·obtain⟨d2,T2,fs2,p2,q2,g2,l2,z2,k2⟩:=app_s g1 (by omega) z1 true 4 (ByteArray.mk #[108,105,110,107,115]) (by decide)
  replace p2:=p2 rfl
  by_cases c1:(128:Int)<l.length
  ·simp(maxSteps:=1000000)(disch:=omega)only[push_cast,decide_not,decide_eq_true_eq,decide_eq_false_iff_not,bne_eq_false_iff_eq,beq_eq_false_iff_ne,gt_iff_lt,ne_eq,not_true_eq_false,not_false_eq_true,hal,h1,h3,v1,c1,p2,FS,↓WX,simprocAttr]
   exact⟨k2,_,_,rfl,g2,by omega,z2⟩
  simp(maxSteps:=1000000)(disch:=omega)only[push_cast,decide_not,decide_eq_true_eq,decide_eq_false_iff_not,bne_eq_false_iff_eq,beq_eq_false_iff_ne,gt_iff_lt,ne_eq,not_true_eq_false,not_false_eq_true,hal,h1,h3,v1,c1,FS,↓WX,simprocAttr]
  exact⟨KeepF.refl,_,_,rfl,g1,by omega,z1⟩
 clear hal h1 h3 a
 rintro a V2 ⟨⟨k2,d2,fs2,h3,g2,l2,z2⟩,hal,h1⟩
 have v2:=k2 _ _ hnf v1
 refine wc_scut (fun a V'=>(KeepF V2 V'∧FS V' a[3]? 399 30)∧a.length=101∧a[1]? =some (.loc 0 0 0)) ?_ ?_
 ·simp(maxSteps:=1000000)(disch:=omega)only[push_cast,decide_not,decide_eq_true_eq,decide_eq_false_iff_not,bne_eq_false_iff_eq,beq_eq_false_iff_ne,gt_iff_lt,ne_eq,not_true_eq_false,not_false_eq_true,hal,h1,h3,↓WX,simprocAttr]
  by_cases cb:l.length≤128
  case neg=>
   have cb':¬(l.length:Int)≤128:=by omega
   have cb2:(0:Int)<l.length:=by omega
   refine wl_loop (fun i a V'=>(i=0∧KeepF V2 V'∧FS V' a[3]? 399 30)∧a.length=101∧a[1]? =some (.loc 0 0 0)∧a[4]? =some (.int .i64 i)) 0 ?_ (by omega) ?_
   ·simp(maxSteps:=1000000)(disch:=omega)only[push_cast,decide_not,decide_eq_true_eq,decide_eq_false_iff_not,bne_eq_false_iff_eq,beq_eq_false_iff_ne,gt_iff_lt,ne_eq,not_true_eq_false,not_false_eq_true,hal,h1,h3,Int.natCast_zero,FS,↓WX,simprocAttr]
    exact⟨KeepF.refl,_,_,rfl,g2,by omega,z2⟩
   clear hal h1 h3 a
   rintro i a V' hi ⟨⟨rfl,k3,d3,fs3,h3,g3,l3,z3⟩,hal,h1,h4⟩
   have v3:=k3 _ _ hnf v2
   simp(maxSteps:=1000000)(disch:=omega)only[push_cast,decide_not,decide_eq_true_eq,decide_eq_false_iff_not,bne_eq_false_iff_eq,beq_eq_false_iff_ne,gt_iff_lt,ne_eq,not_true_eq_false,not_false_eq_true,hal,h1,h3,h4,v3,cb',cb2,Int.natCast_zero,FS,↓WX,simprocAttr]
   exact⟨k3,_,_,rfl,g3,l3,z3⟩
  have cb':(l.length:Int)≤128:=by omega
  refine wl_loop (fun i a V'=>(KeepF V2 V'∧FS V' a[3]? (2+3*i) 30)∧a.length=101∧a[1]? =some (.loc 0 0 0)∧a[4]? =some (.int .i64 i)) l.length ?_ (by omega) ?_
  ·simp(maxSteps:=1000000)(disch:=omega)only[push_cast,decide_not,decide_eq_true_eq,decide_eq_false_iff_not,bne_eq_false_iff_eq,beq_eq_false_iff_ne,gt_iff_lt,ne_eq,not_true_eq_false,not_false_eq_true,hal,h1,h3,Int.natCast_zero,FS,↓WX,simprocAttr]
   exact⟨KeepF.refl,_,_,rfl,g2,by omega,z2⟩
  clear hal h1 h3 a
  rintro i a T hi ⟨⟨k3,d,fs,h3,hg,hfl,hfz⟩,hal,h1,h4⟩
  have v3:=k3 _ _ hnf v2
  rcases Nat.lt_or_eq_of_le hi with hlt |rfl
  case inr=>
   simp(maxSteps:=1000000)(disch:=omega)only[push_cast,decide_not,decide_eq_true_eq,decide_eq_false_iff_not,bne_eq_false_iff_eq,beq_eq_false_iff_ne,gt_iff_lt,ne_eq,not_true_eq_false,not_false_eq_true,hal,h1,h3,h4,v3,cb',Int.lt_irrefl,FS,↓WX,simprocAttr]
   exact⟨k3,_,_,rfl,hg,by omega,hfz⟩
  obtain⟨x,hx⟩:∃x,l[i]? =some x:=⟨l[i],by simp⟩
  have hxb:=hz x (List.mem_of_getElem? hx)
  have hltc:(i:Int)<l.length:=by omega
  have hne:¬i=l.length:=by omega
  obtain⟨q,hq,cq⟩:=Wb.rdecW (n:=n) (i:=i) (by omega) (by omega)
  have hsz:linkT.size=5:=rfl
  have mq:=mx_of (a:=linkT) (b:=q) (by omega)
  have hat:(linkT++q).size≤30:=by rw[ba_len];omega
  unfold linkT at mq
  have ca1:=fun st S=>rAirport_c (n:=n) (s:=x.1) (by omega) (by omega) st S
  have ca2:=fun st S=>rAirport_c (n:=n) (s:=x.2) (by omega) (by omega) st S
  generalize lettS x.1 3=b1 at*
  generalize lettS x.2 3=b2 at*
  obtain⟨vl,cl⟩:=Link22_c (n:=n) (l:=l.take i) (lx:=false) (by rw[List.length_take];omega) (by omega) x.1 x.2
  rw[List.map_take]at cl
  obtain⟨S1,hS1⟩:∃S1,S1=T++[Ob.row 2 [[.str x.1,.str x.2]]]:=⟨_,rfl⟩
  have k4:KeepF V2 S1:=k3.trans (by rw[hS1];exact KeepF.push)
  have hg1:GL 2 encF S1 d fs:=by rw[hS1];exact hg.push _
  have e1:S1[T.length]? =some (.row 2 [[.str x.1,.str x.2]]):=by rw[hS1];exact get_end
  refine wc_scut (fun a V=>V=T∧a.length=101∧a[1]? =some (.loc 0 0 0)∧a[3]? =some (d)∧a[4]? =some (.int .i64 i)) ?_ ?_
  ·simp(maxSteps:=1000000)(disch:=omega)only[push_cast,decide_not,decide_eq_true_eq,decide_eq_false_iff_not,bne_eq_false_iff_eq,beq_eq_false_iff_ne,gt_iff_lt,ne_eq,not_true_eq_false,not_false_eq_true,hal,h1,h3,h4,v3,hltc,cb',↓WX,simprocAttr]
  clear hal h1 h3 h4 a
  rintro a V ⟨rfl,hal,h1,h3,h4⟩
  rw[wc_seq,wc_block]
  refine wc_scut (fun a W=>W=S1∧a.length=101∧a[1]? =some (.loc 0 0 0)∧a[3]? =some (d)∧a[4]? =some (.int .i64 i)∧a[5]? =some (.loc V.length 0 0)) ?_ ?_
  ·simp(maxSteps:=1000000)(disch:=omega)only[push_cast,decide_not,decide_eq_true_eq,decide_eq_false_iff_not,bne_eq_false_iff_eq,beq_eq_false_iff_ne,gt_iff_lt,ne_eq,not_true_eq_false,not_false_eq_true,hal,h1,h3,h4,v3,hlt,hx,set_end,get_end,↓WX,simprocAttr]
   exact hS1.symm
  clear hal h1 h3 h4 a
  rintro a W ⟨rfl,hal,h1,h3,h4,h5⟩
  have w3:=k4 _ _ hnf v2
  refine wc_scut (fun a X=>X=W∧a.length=101∧a[1]? =some (.loc 0 0 0)∧a[3]? =some (d)∧a[4]? =some (.int .i64 i)∧a[5]? =some (.loc V.length 0 0)∧a[6]? =some (.str (linkT++q))) ?_ ?_
  ·unfold linkT
   simp(maxSteps:=1000000)(disch:=omega)only[push_cast,decide_not,decide_eq_true_eq,decide_eq_false_iff_not,bne_eq_false_iff_eq,beq_eq_false_iff_ne,gt_iff_lt,ne_eq,not_true_eq_false,not_false_eq_true,hal,h1,h3,h4,h5,cq,mq,↓WX,simprocAttr]
  clear hal h1 h3 h4 h5 a
  rintro a X ⟨rfl,hal,h1,h3,h4,h5,h6⟩
  generalize linkT++q=at0 at*
  refine wc_scut (fun a V'=>(KeepF X V'∧FS V' a[3]? (2+3*i+1) 30)∧a.length=101∧a[1]? =some (.loc 0 0 0)∧a[4]? =some (.int .i64 i)∧a[5]? =some (.loc V.length 0 0)∧a[6]? =some (.str at0)) ?_ ?_
  ·obtain⟨d5,T5,fs5,p5,q5,g5,l5,z5,k5⟩:=app_s hg1 (by omega) hfz true 5 at0 hat
   replace p5:=p5 rfl
   cases b1
   ·simp(maxSteps:=1000000)(disch:=omega)only[push_cast,decide_not,decide_eq_true_eq,decide_eq_false_iff_not,bne_eq_false_iff_eq,beq_eq_false_iff_ne,gt_iff_lt,ne_eq,not_true_eq_false,not_false_eq_true,hal,h1,h3,h4,h5,h6,e1,ca1,p5,dUn,Bool.not_false,FS,↓WX,simprocAttr]
    exact⟨k5,_,_,rfl,g5,by omega,z5⟩
   cases b2
   ·simp(maxSteps:=1000000)(disch:=omega)only[push_cast,decide_not,decide_eq_true_eq,decide_eq_false_iff_not,bne_eq_false_iff_eq,beq_eq_false_iff_ne,gt_iff_lt,ne_eq,not_true_eq_false,not_false_eq_true,hal,h1,h3,h4,h5,h6,e1,ca1,ca2,p5,dUn,Bool.not_false,Bool.not_true,FS,↓WX,simprocAttr]
    exact⟨k5,_,_,rfl,g5,by omega,z5⟩
   simp(maxSteps:=1000000)(disch:=omega)only[push_cast,decide_not,decide_eq_true_eq,decide_eq_false_iff_not,bne_eq_false_iff_eq,beq_eq_false_iff_ne,gt_iff_lt,ne_eq,not_true_eq_false,not_false_eq_true,hal,h1,h3,h4,h5,h6,e1,ca1,ca2,dUn,Bool.not_false,Bool.not_true,FS,↓WX,simprocAttr]
   exact⟨KeepF.refl,_,_,rfl,hg1,by omega,hfz⟩
  clear hal h1 h3 h4 h5 h6 a
  rintro a V5 ⟨⟨k5,d5,fs5,h3,g5,l5,z5⟩,hal,h1,h4,h5,h6⟩
  have e5:=k5 _ _ not_fault2 e1
  refine wc_scut (fun a V'=>(KeepF V5 V'∧FS V' a[3]? (2+3*i+2) 30)∧a.length=101∧a[1]? =some (.loc 0 0 0)∧a[4]? =some (.int .i64 i)∧a[5]? =some (.loc V.length 0 0)∧a[6]? =some (.str at0)) ?_ ?_
  ·obtain⟨d6,T6,fs6,p6,q6,g6,l6,z6,k6⟩:=app_s g5 (by omega) z5 true 2 at0 hat
   replace p6:=p6 rfl
   by_cases qe:x.1=x.2
   ·simp(maxSteps:=1000000)(disch:=omega)only[push_cast,decide_not,decide_eq_true_eq,decide_eq_false_iff_not,bne_eq_false_iff_eq,beq_eq_false_iff_ne,gt_iff_lt,ne_eq,not_true_eq_false,not_false_eq_true,hal,h1,h3,h4,h5,h6,e5,qe,str_eq,p6,FS,↓WX,simprocAttr]
    exact⟨k6,_,_,rfl,g6,by omega,z6⟩
   simp(maxSteps:=1000000)(disch:=omega)only[push_cast,decide_not,decide_eq_true_eq,decide_eq_false_iff_not,bne_eq_false_iff_eq,beq_eq_false_iff_ne,gt_iff_lt,ne_eq,not_true_eq_false,not_false_eq_true,hal,h1,h3,h4,h5,h6,e5,qe,str_eq,FS,↓WX,simprocAttr]
   exact⟨KeepF.refl,_,_,rfl,g5,by omega,z5⟩
  clear hal h1 h3 h4 h5 h6 a
  rintro a V6 ⟨⟨k6,d6,fs6,h3,g6,l6,z6⟩,hal,h1,h4,h5,h6⟩
  have e6:=k6 _ _ not_fault2 e5
  have kk:KeepF V2 V6:=(k4.trans k5).trans k6
  have w6:=kk _ _ hnf v2
  obtain⟨d7,T7,fs7,p7,q7,g7,l7,z7,k7⟩:=app_s g6 (by omega) z6 true 6 at0 hat
  replace p7:=p7 rfl
  by_cases c7:0≤vl
  ·simp(maxSteps:=1000000)(disch:=omega)only[push_cast,decide_not,decide_eq_true_eq,decide_eq_false_iff_not,bne_eq_false_iff_eq,beq_eq_false_iff_ne,gt_iff_lt,ne_eq,not_true_eq_false,not_false_eq_true,hal,h1,h3,h4,h5,h6,w6,e6,hlt,hi,hne,cl,c7,p7,Nat.zero_le,and_self,Nat.sub_zero,List.drop_zero,decide_false,Bool.and_false,ge_iff_le,wrap_ok,Int.natCast_add,Int.natCast_one,FS,↓WX,simprocAttr]
   exact⟨kk.trans k7,_,_,rfl,g7,by omega,z7⟩
  ·simp(maxSteps:=1000000)(disch:=omega)only[push_cast,decide_not,decide_eq_true_eq,decide_eq_false_iff_not,bne_eq_false_iff_eq,beq_eq_false_iff_ne,gt_iff_lt,ne_eq,not_true_eq_false,not_false_eq_true,hal,h1,h3,h4,h5,h6,w6,e6,hlt,hi,hne,cl,c7,Nat.zero_le,and_self,Nat.sub_zero,List.drop_zero,decide_false,Bool.and_false,ge_iff_le,wrap_ok,Int.natCast_add,Int.natCast_one,FS,↓WX,simprocAttr]
   exact⟨kk,_,_,rfl,g6,by omega,z6⟩
 clear hal h1 h3 a
 rintro a V3 ⟨⟨k3,d3,fs3,h3,g3,l3,z3⟩,hal,h1⟩
 have v3:=k3 _ _ hnf v2
 obtain⟨d4,T4,fs4,p4,q4,g4,l4,z4,k4⟩:=app_s g3 (by omega) z3 true 2 (ByteArray.mk #[109,105,108,101,115]) (by decide)
 replace p4:=p4 rfl
 by_cases c1:mi<0
 ·simp(maxSteps:=1000000)(disch:=omega)only[push_cast,decide_not,decide_eq_true_eq,decide_eq_false_iff_not,bne_eq_false_iff_eq,beq_eq_false_iff_ne,gt_iff_lt,ne_eq,not_true_eq_false,not_false_eq_true,hal,h1,h3,v3,c1,p4,Tryz.f47,↓WX,simprocAttr]
  exact⟨_,g4,by omega,z4⟩
 by_cases c2:99999<mi
 ·simp(maxSteps:=1000000)(disch:=omega)only[push_cast,decide_not,decide_eq_true_eq,decide_eq_false_iff_not,bne_eq_false_iff_eq,beq_eq_false_iff_ne,gt_iff_lt,ne_eq,not_true_eq_false,not_false_eq_true,hal,h1,h3,v3,c1,c2,p4,Tryz.f47,↓WX,simprocAttr]
  exact⟨_,g4,by omega,z4⟩
 simp(maxSteps:=1000000)(disch:=omega)only[push_cast,decide_not,decide_eq_true_eq,decide_eq_false_iff_not,bne_eq_false_iff_eq,beq_eq_false_iff_ne,gt_iff_lt,ne_eq,not_true_eq_false,not_false_eq_true,hal,h1,h3,v3,c1,c2,Tryz.f47,↓WX,simprocAttr]
 exact⟨_,g3,by omega,z3⟩
theorem Check22_c {nu mi:Int} {l:List (ByteArray×ByteArray)} {lx:Bool} (hl:l.length≤1048576) (hz:∀x∈l,x.1.size≤1048576∧x.2.size≤1048576) (hn:1048701≤n):∃d,FR d 400 30∧∀st S,callD E (dcall E n) st S 47 [.agg [.int .i64 nu,.sl 2 (l.map encLk) lx,.int .i64 mi]]=some (d,S):=by
 obtain⟨m,rfl⟩:∃m,n=m+1:=⟨n-1,by omega⟩
 obtain⟨d,T,ho,fs,hg,h1,h2⟩:=Check22_d (n:=m) (nu:=nu) (mi:=mi) (lx:=lx) hl hz (by omega)
 obtain⟨d',f,hf⟩:=GL_fz hg
 exact⟨d',⟨fs,hf,h1,h2⟩,fun st S=>callD_pure rfl (by simp[pureL_cons,pureL_nil,D.pure,encLk_pure]) ho f⟩
end
end Go.Proofs.YtaklebjoenophaaGreat.Dm
