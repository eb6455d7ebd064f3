/-
  The reference's violations of the percents of a rule.
  The reference's violations of a routing.
  The reference's violations of taxes.
-/
import Derived.Test.YtaklebjoenophaaGreatCdD
set_option linter.unusedSimpArgs false
set_option linter.unusedVariables false
namespace Go.Proofs.YtaklebjoenophaaGreat.Dm
open Go Gw
set_option linter.unusedSimpArgs false
set_option linter.unusedSimpArgs false
abbrev encPc (p:ByteArray×Int):List D:=[.str p.1,.int .i64 p.2]
theorem encPc_pure (l:List (ByteArray×Int)):pureLL (l.map encPc)=true:=by
 induction l with
 |nil=>rfl
 |cons f fs ih=>rw[List.map_cons,pureLL_cons,ih];rfl
def percT:ByteArray:=ByteArray.mk #[112,101,114,99,101,110,116,32]
section
variable {n : Nat}
set_option maxHeartbeats 8000000 in
set_option maxRecDepth 100000 in
theorem percents21_d {l:List (ByteArray×Int)} {lx:Bool} (hl:l.length≤1048576) (hz:∀p∈l,p.1.size≤1048576) (hn:1048700≤n):
  WO (dcall E (n+1) 110 [.sl 2 (l.map encPc) lx] []) fun d T=>∃fs,GL 2 encF T d fs∧fs.length≤3*l.length∧∀f∈fs,f.2.size≤30:=by
 refine wo_dcall Tryz.func110 rfl (by decide) rfl 74 rfl (fun a hal ha=>?_)
 have h0:a[0]? =some (.sl 2 (l.map encPc) lx):=ha 0 (by simp)
 clear ha
 simp(maxSteps:=1000000)(disch:=omega)only[push_cast,decide_not,decide_eq_true_eq,decide_eq_false_iff_not,bne_eq_false_iff_eq,beq_eq_false_iff_ne,gt_iff_lt,ne_eq,not_true_eq_false,not_false_eq_true,hal,h0,↓WX,simprocAttr]
 refine wl_loop (fun i a T=>FS T a[3]? (3*i) 30∧a.length=74∧a[0]? =some (.sl 2 (l.map encPc) lx)∧a[4]? =some (.int .i64 i)) l.length ?_ (by omega) ?_
 ·simp(maxSteps:=1000000)(disch:=omega)only[push_cast,decide_not,decide_eq_true_eq,decide_eq_false_iff_not,bne_eq_false_iff_eq,beq_eq_false_iff_ne,gt_iff_lt,ne_eq,not_true_eq_false,not_false_eq_true,hal,h0,Int.natCast_zero,FS,↓WX,simprocAttr]
  exact⟨_,_,rfl,GL.nil,Nat.zero_le _,fun f h=>by cases h⟩
 clear hal h0 a
 rintro i a T hi ⟨⟨d,fs,h3,hg,hfl,hfz⟩,hal,h0,h4⟩
 rcases Nat.lt_or_eq_of_le hi with hlt |rfl
 case inr=>
  simp(maxSteps:=1000000)(disch:=omega)only[push_cast,decide_not,decide_eq_true_eq,decide_eq_false_iff_not,bne_eq_false_iff_eq,beq_eq_false_iff_ne,gt_iff_lt,ne_eq,not_true_eq_false,not_false_eq_true,hal,h0,h3,h4,Int.lt_irrefl,Tryz.f110,↓WX,simprocAttr]
  exact⟨fs,hg,hfl,hfz⟩
 obtain⟨x,hx⟩:∃x,l[i]? =some x:=⟨l[i],by simp⟩
 have hltc:(i:Int)<l.length:=by omega
 obtain⟨q,hq,cq⟩:=Wb.rdecW (n:=n) (i:=i) (by omega) (by omega)
 have hsz:percT.size=8:=rfl
 have mq:=mx_of (a:=percT) (b:=q) (by omega)
 have hat:(percT++q).size≤30:=by rw[ba_len];omega
 unfold percT at mq
 refine wc_scut (fun a V=>V=T∧a.length=74∧a[0]? =some (.sl 2 (l.map encPc) lx)∧a[3]? =some (d)∧a[4]? =some (.int .i64 i)) ?_ ?_
 ·simp(maxSteps:=1000000)(disch:=omega)only[push_cast,decide_not,decide_eq_true_eq,decide_eq_false_iff_not,bne_eq_false_iff_eq,beq_eq_false_iff_ne,gt_iff_lt,ne_eq,not_true_eq_false,not_false_eq_true,hal,h0,h3,h4,hltc,↓WX,simprocAttr]
 clear hal h0 h3 h4 a
 rintro a V ⟨rfl,hal,h0,h3,h4⟩
 rw[wc_seq,wc_block]
 refine wc_scut (fun a W=>W=V∧a.length=74∧a[0]? =some (.sl 2 (l.map encPc) lx)∧a[3]? =some (d)∧a[4]? =some (.int .i64 i)∧a[5]? =some (.str (percT++q))∧a[6]? =some (.bool false)) ?_ ?_
 ·unfold percT
  simp(maxSteps:=1000000)(disch:=omega)only[push_cast,decide_not,decide_eq_true_eq,decide_eq_false_iff_not,bne_eq_false_iff_eq,beq_eq_false_iff_ne,gt_iff_lt,ne_eq,not_true_eq_false,not_false_eq_true,hal,h0,h3,h4,cq,mq,↓WX,simprocAttr]
 clear hal h0 h3 h4 a
 rintro a W ⟨rfl,hal,h0,h3,h4,h5,h6⟩
 generalize percT++q=at0 at*
 refine wc_scut (fun a V=>(V=W∧∃b,a[6]? =some (.bool b))∧a.length=74∧a[0]? =some (.sl 2 (l.map encPc) lx)∧a[3]? =some (d)∧a[4]? =some (.int .i64 i)∧a[5]? =some (.str at0)) ?_ ?_
 ·simp(maxSteps:=1000000)(disch:=omega)only[push_cast,decide_not,decide_eq_true_eq,decide_eq_false_iff_not,bne_eq_false_iff_eq,beq_eq_false_iff_ne,gt_iff_lt,ne_eq,not_true_eq_false,not_false_eq_true,hal,h0,h3,h4,h5,h6,↓WX,simprocAttr]
  refine wl_loop (fun k a V=>(V=W∧∃b,a[6]? =some (.bool b))∧a.length=74∧a[0]? =some (.sl 2 (l.map encPc) lx)∧a[3]? =some (d)∧a[4]? =some (.int .i64 i)∧a[5]? =some (.str at0)∧a[7]? =some (.int .i64 k)) i ?_ (by omega) ?_
  ·simp(maxSteps:=1000000)(disch:=omega)only[push_cast,decide_not,decide_eq_true_eq,decide_eq_false_iff_not,bne_eq_false_iff_eq,beq_eq_false_iff_ne,gt_iff_lt,ne_eq,not_true_eq_false,not_false_eq_true,hal,h0,h3,h4,h5,h6,Int.natCast_zero,↓WX,simprocAttr]
   exact⟨_,rfl⟩
  clear hal h0 h3 h4 h5 h6 a
  rintro k a V hk ⟨⟨rfl,b,h6⟩,hal,h0,h3,h4,h5,h7⟩
  rcases Nat.lt_or_eq_of_le hk with hkt |rfl
  case inr=>
   simp(maxSteps:=1000000)(disch:=omega)only[push_cast,decide_not,decide_eq_true_eq,decide_eq_false_iff_not,bne_eq_false_iff_eq,beq_eq_false_iff_ne,gt_iff_lt,ne_eq,not_true_eq_false,not_false_eq_true,hal,h0,h3,h4,h5,h6,h7,Int.lt_irrefl,↓WX,simprocAttr]
   exact⟨_,rfl⟩
  obtain⟨y,hy⟩:∃y,l[k]? =some y:=⟨l[k]'(by omega),by simp⟩
  have hktc:(k:Int)<i:=by omega
  have hkl:k<l.length:=by omega
  cases b
  ·by_cases qe:y.1=x.1
   ·simp(maxSteps:=1000000)(disch:=omega)only[push_cast,decide_not,decide_eq_true_eq,decide_eq_false_iff_not,bne_eq_false_iff_eq,beq_eq_false_iff_ne,gt_iff_lt,ne_eq,not_true_eq_false,not_false_eq_true,hal,h0,h3,h4,h5,h6,h7,hktc,hkt,hkl,hlt,hx,hy,qe,str_eq,wrap_ok,Int.natCast_add,Int.natCast_one,↓WX,simprocAttr]
    exact⟨_,rfl⟩
   ·simp(maxSteps:=1000000)(disch:=omega)only[push_cast,decide_not,decide_eq_true_eq,decide_eq_false_iff_not,bne_eq_false_iff_eq,beq_eq_false_iff_ne,gt_iff_lt,ne_eq,not_true_eq_false,not_false_eq_true,hal,h0,h3,h4,h5,h6,h7,hktc,hkt,hkl,hlt,hx,hy,qe,str_eq,wrap_ok,Int.natCast_add,Int.natCast_one,↓WX,simprocAttr]
    exact⟨_,rfl⟩
  ·simp(maxSteps:=1000000)(disch:=omega)only[push_cast,decide_not,decide_eq_true_eq,decide_eq_false_iff_not,bne_eq_false_iff_eq,beq_eq_false_iff_ne,gt_iff_lt,ne_eq,not_true_eq_false,not_false_eq_true,hal,h0,h3,h4,h5,h6,h7,hktc,hkt,hkl,hlt,hx,hy,wrap_ok,Int.natCast_add,Int.natCast_one,↓WX,simprocAttr]
   exact⟨_,rfl⟩
 clear hal h0 h3 h4 h5 h6 a
 rintro a V ⟨⟨rfl,b,h6⟩,hal,h0,h3,h4,h5⟩
 obtain⟨bc,cc⟩:=rCode3_c (n:=n) (s:=x.1) (by have:=hz x (List.mem_of_getElem? hx);omega) (by have:=hz x (List.mem_of_getElem? hx);omega)
 refine wc_scut (fun a V'=>FS V' a[3]? (3*i+1) 30∧a.length=74∧a[0]? =some (.sl 2 (l.map encPc) lx)∧a[4]? =some (.int .i64 i)∧a[5]? =some (.str at0)∧a[6]? =some (.bool b)) ?_ ?_
 ·obtain⟨d1,T1,fs1,p1,q1,g1,l1,z1,k1⟩:=app_s hg (by omega) hfz (!bc) 5 at0 hat
  cases bc
  ·replace p1:=p1 rfl
   simp(maxSteps:=1000000)(disch:=omega)only[push_cast,decide_not,decide_eq_true_eq,decide_eq_false_iff_not,bne_eq_false_iff_eq,beq_eq_false_iff_ne,gt_iff_lt,ne_eq,not_true_eq_false,not_false_eq_true,hal,h0,h3,h4,h5,h6,hlt,hx,cc,p1,dUn,Bool.not_false,FS,↓WX,simprocAttr]
   exact⟨_,_,rfl,g1,by omega,z1⟩
  ·simp(maxSteps:=1000000)(disch:=omega)only[push_cast,decide_not,decide_eq_true_eq,decide_eq_false_iff_not,bne_eq_false_iff_eq,beq_eq_false_iff_ne,gt_iff_lt,ne_eq,not_true_eq_false,not_false_eq_true,hal,h0,h3,h4,h5,h6,hlt,hx,cc,dUn,Bool.not_true,FS,↓WX,simprocAttr]
   exact⟨_,_,rfl,hg,by omega,hfz⟩
 clear hal h0 h3 h4 h5 h6 a
 rintro a V' ⟨⟨d1,fs1,h3,g1,l1,z1⟩,hal,h0,h4,h5,h6⟩
 refine wc_scut (fun a V'=>FS V' a[3]? (3*i+2) 30∧a.length=74∧a[0]? =some (.sl 2 (l.map encPc) lx)∧a[4]? =some (.int .i64 i)∧a[5]? =some (.str at0)) ?_ ?_
 ·obtain⟨d2,T2,fs2,p2,q2,g2,l2,z2,k2⟩:=app_s g1 (by omega) z1 b 6 at0 hat
  cases b
  ·simp(maxSteps:=1000000)(disch:=omega)only[push_cast,decide_not,decide_eq_true_eq,decide_eq_false_iff_not,bne_eq_false_iff_eq,beq_eq_false_iff_ne,gt_iff_lt,ne_eq,not_true_eq_false,not_false_eq_true,hal,h0,h3,h4,h5,h6,FS,↓WX,simprocAttr]
   exact⟨_,_,rfl,g1,by omega,z1⟩
  ·replace p2:=p2 rfl
   simp(maxSteps:=1000000)(disch:=omega)only[push_cast,decide_not,decide_eq_true_eq,decide_eq_false_iff_not,bne_eq_false_iff_eq,beq_eq_false_iff_ne,gt_iff_lt,ne_eq,not_true_eq_false,not_false_eq_true,hal,h0,h3,h4,h5,h6,p2,FS,↓WX,simprocAttr]
   exact⟨_,_,rfl,g2,by omega,z2⟩
 clear hal h0 h3 h4 h5 h6 a
 rintro a V' ⟨⟨d2,fs2,h3,g2,l2,z2⟩,hal,h0,h4,h5⟩
 obtain⟨d3,T3,fs3,p3,q3,g3,l3,z3,k3⟩:=app_s g2 (by omega) z2 true 2 at0 hat
 replace p3:=p3 rfl
 by_cases c1:x.2<0
 ·simp(maxSteps:=1000000)(disch:=omega)only[push_cast,decide_not,decide_eq_true_eq,decide_eq_false_iff_not,bne_eq_false_iff_eq,beq_eq_false_iff_ne,gt_iff_lt,ne_eq,not_true_eq_false,not_false_eq_true,hal,h0,h3,h4,h5,hlt,hx,c1,p3,FS,wrap_ok,Int.natCast_add,Int.natCast_one,↓WX,simprocAttr]
  exact⟨_,_,rfl,g3,by omega,z3⟩
 by_cases c2:1000<x.2
 ·simp(maxSteps:=1000000)(disch:=omega)only[push_cast,decide_not,decide_eq_true_eq,decide_eq_false_iff_not,bne_eq_false_iff_eq,beq_eq_false_iff_ne,gt_iff_lt,ne_eq,not_true_eq_false,not_false_eq_true,hal,h0,h3,h4,h5,hlt,hx,c1,c2,p3,FS,wrap_ok,Int.natCast_add,Int.natCast_one,↓WX,simprocAttr]
  exact⟨_,_,rfl,g3,by omega,z3⟩
 simp(maxSteps:=1000000)(disch:=omega)only[push_cast,decide_not,decide_eq_true_eq,decide_eq_false_iff_not,bne_eq_false_iff_eq,beq_eq_false_iff_ne,gt_iff_lt,ne_eq,not_true_eq_false,not_false_eq_true,hal,h0,h3,h4,h5,hlt,hx,c1,c2,FS,wrap_ok,Int.natCast_add,Int.natCast_one,↓WX,simprocAttr]
 exact⟨_,_,rfl,g2,by omega,z2⟩
theorem percents21_c {l:List (ByteArray×Int)} {lx:Bool} (hl:l.length≤1048576) (hz:∀p∈l,p.1.size≤1048576) (hn:1048701≤n):∃d,FR d (3*l.length) 30∧∀st S,callD E (dcall E n) st S 110 [.sl 2 (l.map encPc) lx]=some (d,S):=by
 obtain⟨m,rfl⟩:∃m,n=m+1:=⟨n-1,by omega⟩
 obtain⟨d,T,ho,fs,hg,h1,h2⟩:=percents21_d (n:=m) (lx:=lx) hl hz (by omega)
 obtain⟨d',f,hf⟩:=GL_fz hg
 exact⟨d',⟨fs,hf,h1,h2⟩,fun st S=>callD_pure rfl (by simp[pureL_cons,pureL_nil,D.pure,encPc_pure]) ho f⟩
end
end Go.Proofs.YtaklebjoenophaaGreat.Dm
namespace Go.Proofs.YtaklebjoenophaaGreat.Dm
open Go Gw
set_option linter.unusedSimpArgs false
set_option linter.unusedSimpArgs false
abbrev encLk (p:ByteArray×ByteArray):List D:=[.str p.1,.str p.2]
theorem encLk_pure (l:List (ByteArray×ByteArray)):pureLL (l.map encLk)=true:=by
 induction l with
 |nil=>rfl
 |cons f fs ih=>rw[List.map_cons,pureLL_cons,ih];rfl
def linkT:ByteArray:=ByteArray.mk #[108,105,110,107,32]
section
variable {n : Nat}
set_option maxHeartbeats 2000000 in
theorem Link22_c {l:List (ByteArray×ByteArray)} {lx:Bool} (hl:l.length≤1048576) (hn:1048580≤n) (s u:ByteArray):∃v:Int,∀st S,callD E (dcall E n) st S 111 [.sl 2 (l.map encLk) lx,.str s,.str u]=some (.int .i64 v,S):=by
 obtain⟨m,rfl⟩:∃m,n=m+1:=⟨n-1,by omega⟩
 have:WO (dcall E (m+1) 111 [.sl 2 (l.map encLk) lx,.str s,.str u] []) fun r T=>∃v:Int,r=.int .i64 v:=by
  refine wo_dcall Tryz.func111 rfl (by decide) rfl 31 rfl (fun a hal ha=>?_)
  have h0:a[0]? =some (.sl 2 (l.map encLk) lx):=ha 0 (by simp)
  have h1:a[1]? =some (.str s):=ha 1 (by simp)
  have h2:a[2]? =some (.str u):=ha 2 (by simp)
  clear ha
  simp(maxSteps:=1000000)(disch:=omega)only[push_cast,decide_not,decide_eq_true_eq,decide_eq_false_iff_not,bne_eq_false_iff_eq,beq_eq_false_iff_ne,gt_iff_lt,ne_eq,not_true_eq_false,not_false_eq_true,hal,h0,h1,h2,↓WX,simprocAttr]
  refine wl_loop (fun i a T=>a.length=31∧a[0]? =some (.sl 2 (l.map encLk) lx)∧a[1]? =some (.str s)∧a[2]? =some (.str u)∧a[7]? =some (.int .i64 i)) l.length ?_ (by omega) ?_
  ·simp(maxSteps:=1000000)(disch:=omega)only[push_cast,decide_not,decide_eq_true_eq,decide_eq_false_iff_not,bne_eq_false_iff_eq,beq_eq_false_iff_ne,gt_iff_lt,ne_eq,not_true_eq_false,not_false_eq_true,hal,h0,h1,h2,Int.natCast_zero,↓WX,simprocAttr]
  clear hal h0 h1 h2 a
  rintro i a T hi ⟨hal,h0,h1,h2,h7⟩
  rcases Nat.lt_or_eq_of_le hi with hlt |rfl
  case inr=>
   simp(maxSteps:=1000000)(disch:=omega)only[push_cast,decide_not,decide_eq_true_eq,decide_eq_false_iff_not,bne_eq_false_iff_eq,beq_eq_false_iff_ne,gt_iff_lt,ne_eq,not_true_eq_false,not_false_eq_true,hal,h0,h1,h2,h7,Int.lt_irrefl,Tryz.f111,↓WX,simprocAttr]
   exact⟨_,rfl⟩
  obtain⟨x,hx⟩:∃x,l[i]? =some x:=⟨l[i],by simp⟩
  have hltc:(i:Int)<l.length:=by omega
  by_cases q:x.1=s
  ·by_cases q2:x.2=u
   ·simp(maxSteps:=1000000)(disch:=omega)only[push_cast,decide_not,decide_eq_true_eq,decide_eq_false_iff_not,bne_eq_false_iff_eq,beq_eq_false_iff_ne,gt_iff_lt,ne_eq,not_true_eq_false,not_false_eq_true,hal,h0,h1,h2,h7,hltc,hlt,hx,q,q2,str_eq,Tryz.f111,↓WX,simprocAttr]
    exact⟨_,rfl⟩
   ·simp(maxSteps:=1000000)(disch:=omega)only[push_cast,decide_not,decide_eq_true_eq,decide_eq_false_iff_not,bne_eq_false_iff_eq,beq_eq_false_iff_ne,gt_iff_lt,ne_eq,not_true_eq_false,not_false_eq_true,hal,h0,h1,h2,h7,hltc,hlt,hx,q,q2,str_eq,wrap_ok,Int.natCast_add,Int.natCast_one,↓WX,simprocAttr]
  ·simp(maxSteps:=1000000)(disch:=omega)only[push_cast,decide_not,decide_eq_true_eq,decide_eq_false_iff_not,bne_eq_false_iff_eq,beq_eq_false_iff_ne,gt_iff_lt,ne_eq,not_true_eq_false,not_false_eq_true,hal,h0,h1,h2,h7,hltc,hlt,hx,q,str_eq,wrap_ok,Int.natCast_add,Int.natCast_one,↓WX,simprocAttr]
 obtain⟨_,T,ho,v,rfl⟩:=this
 exact⟨v,fun st S=>callD_pure rfl (by simp[pureL_cons,pureL_nil,D.pure,encLk_pure]) ho rfl⟩
end
end Go.Proofs.YtaklebjoenophaaGreat.Dm
namespace Go.Proofs.YtaklebjoenophaaGreat.Dm
open Go Gw
set_option linter.unusedSimpArgs false
set_option linter.unusedSimpArgs false
structure Tx where
 code:ByteArray
 kind:Int
 land:ByteArray
 amount:Int
 scope:Int
 transit:Int
 free:List ByteArray
 freex:Bool
def Tx.enc (x:Tx):List D:=[.str x.code,.int .i64 x.kind,.str x.land,.int .i64 x.amount,.int .i64 x.scope,.int .i64 x.transit,.sl 1 (x.free.map Cnd.encT) x.freex]
theorem Tx_pure (r:Tx):pureL r.enc=true:=by
 simp only[D.pure,pureL_cons,pureL_nil,Bool.and_true,Bool.and_self,Tx.enc,Cnd.encT_pure]
theorem Txs_pure (l:List Tx):pureLL (l.map Tx.enc)=true:=by
 induction l with
 |nil=>rfl
 |cons f fs ih=>rw[List.map_cons,pureLL_cons,ih,Tx_pure];rfl
def taxT:ByteArray:=ByteArray.mk #[116,97,120,32]
section
variable {n : Nat}
theorem rCodeK_c {s:ByteArray} (k:Int) (hn:s.size+6<n) (hz:s.size≤9223372036854775807):∃b,∀st S,callD E (dcall E n) st S 105 [.str s,.int .i64 k,.int .i64 k]=some (.bool b,S):=by
 obtain⟨m,rfl⟩:∃m,n=m+1:=⟨n-1,by omega⟩
 exact⟨_,fun st S=>callD_pure rfl rfl (eq_of_wo (ref_Code_d (by omega) hz)) rfl⟩
theorem most27_c (hn:1≤n) (k:Int):∃v:Int,∀st S,callD E (dcall E n) st S 49 [.int .i64 k]=some (.int .i64 v,S):=by
 obtain⟨m,rfl⟩:∃m,n=m+1:=⟨n-1,by omega⟩
 have:WO (dcall E (m+1) 49 [.int .i64 k] []) fun r T=>∃v:Int,r=.int .i64 v:=by
  refine wo_dcall Tryz.func49 rfl (by decide) rfl 5 rfl (fun a hal ha=>?_)
  have h0:a[0]? =some (.int .i64 k):=ha 0 (by simp)
  clear ha
  by_cases q:k=4 <;> (simp(maxSteps:=1000000)(disch:=omega)only[push_cast,decide_not,decide_eq_true_eq,decide_eq_false_iff_not,bne_eq_false_iff_eq,beq_eq_false_iff_ne,gt_iff_lt,ne_eq,not_true_eq_false,not_false_eq_true,hal,h0,q,Tryz.f49,↓WX,simprocAttr];exact⟨_,rfl⟩)
 obtain⟨_,T,ho,v,rfl⟩:=this
 exact⟨v,fun st S=>callD_pure rfl rfl ho rfl⟩
set_option maxHeartbeats 4000000 in
set_option maxRecDepth 100000 in
theorem named27_c (x:Tx) (z1:x.code.size≤1048576) (z2:x.land.size≤1048576) (z3:∀s∈x.free,s.size≤1048576) (z4:x.free.length≤1048576) (hn:1048700≤n):∃b,∀st S,callD E (dcall E n) st S 48 [.agg x.enc]=some (.bool b,S):=by
 obtain⟨m,rfl⟩:∃m,n=m+1:=⟨n-1,by omega⟩
 obtain⟨b1,c1⟩:=rCodeK_c (n:=m) (s:=x.code) 2 (by omega) (by omega)
 have c2:=fun st S=>rCountry_c (n:=m) (s:=x.land) (by omega) (by omega) st S
 generalize lettS x.land 2=b2 at*
 have hp:=Tx_pure x
 simp only[Tx.enc]at hp ⊢
 have:WO (dcall E (m+1) 48 [.agg [.str x.code,.int .i64 x.kind,.str x.land,.int .i64 x.amount,.int .i64 x.scope,.int .i64 x.transit,.sl 1 (x.free.map Cnd.encT) x.freex]] []) fun r T=>∃b,r=.bool b:=by
  refine wo_dcall Tryz.func48 rfl (by decide) rfl 28 rfl (fun a hal ha=>?_)
  have h0:a[0]? =some (.agg [.str x.code,.int .i64 x.kind,.str x.land,.int .i64 x.amount,.int .i64 x.scope,.int .i64 x.transit,.sl 1 (x.free.map Cnd.encT) x.freex]):=ha 0 (by simp)
  clear ha
  cases b1
  case false=>
   simp(maxSteps:=1000000)(disch:=omega)only[push_cast,decide_not,decide_eq_true_eq,decide_eq_false_iff_not,bne_eq_false_iff_eq,beq_eq_false_iff_ne,gt_iff_lt,ne_eq,not_true_eq_false,not_false_eq_true,hal,h0,c1,dUn,Bool.not_false,Tryz.f48,↓WX,simprocAttr]
   exact⟨_,rfl⟩
  cases b2
  case false=>
   simp(maxSteps:=1000000)(disch:=omega)only[push_cast,decide_not,decide_eq_true_eq,decide_eq_false_iff_not,bne_eq_false_iff_eq,beq_eq_false_iff_ne,gt_iff_lt,ne_eq,not_true_eq_false,not_false_eq_true,hal,h0,c1,c2,dUn,Bool.not_false,Bool.not_true,Tryz.f48,↓WX,simprocAttr]
   exact⟨_,rfl⟩
  simp(maxSteps:=1000000)(disch:=omega)only[push_cast,decide_not,decide_eq_true_eq,decide_eq_false_iff_not,bne_eq_false_iff_eq,beq_eq_false_iff_ne,gt_iff_lt,ne_eq,not_true_eq_false,not_false_eq_true,hal,h0,c1,c2,dUn,Bool.not_false,Bool.not_true,↓WX,simprocAttr]
  refine wl_loop (fun i a T=>T=[Ob.row 7 [[.str x.code,.int .i64 x.kind,.str x.land,.int .i64 x.amount,.int .i64 x.scope,.int .i64 x.transit,.sl 1 (x.free.map Cnd.encT) x.freex]]]∧a.length=28∧a[1]? =some (.loc 0 0 0)∧a[3]? =some (.int .i64 i)) x.free.length ?_ (by omega) ?_
  ·simp(maxSteps:=1000000)(disch:=omega)only[push_cast,decide_not,decide_eq_true_eq,decide_eq_false_iff_not,bne_eq_false_iff_eq,beq_eq_false_iff_ne,gt_iff_lt,ne_eq,not_true_eq_false,not_false_eq_true,hal,h0,Int.natCast_zero,↓WX,simprocAttr]
  clear hal h0 a
  rintro i a T hi ⟨rfl,hal,h1,h3⟩
  rcases Nat.lt_or_eq_of_le hi with hlt |rfl
  case inr=>
   simp(maxSteps:=1000000)(disch:=omega)only[push_cast,decide_not,decide_eq_true_eq,decide_eq_false_iff_not,bne_eq_false_iff_eq,beq_eq_false_iff_ne,gt_iff_lt,ne_eq,not_true_eq_false,not_false_eq_true,hal,h1,h3,Int.lt_irrefl,Tryz.f48,↓WX,simprocAttr]
   exact⟨_,rfl⟩
  obtain⟨y,hy⟩:∃y,x.free[i]? =some y:=⟨x.free[i],by simp⟩
  have hltc:(i:Int)<x.free.length:=by omega
  have hys:=z3 y (List.mem_of_getElem? hy)
  obtain⟨b3,c3⟩:=rCodeK_c (n:=m) (s:=y) 3 (by omega) (by omega)
  cases b3
  ·simp(maxSteps:=1000000)(disch:=omega)only[push_cast,decide_not,decide_eq_true_eq,decide_eq_false_iff_not,bne_eq_false_iff_eq,beq_eq_false_iff_ne,gt_iff_lt,ne_eq,not_true_eq_false,not_false_eq_true,hal,h1,h3,hltc,hlt,hy,c3,dUn,Bool.not_false,Tryz.f48,↓WX,simprocAttr]
   exact⟨_,rfl⟩
  ·simp(maxSteps:=1000000)(disch:=omega)only[push_cast,decide_not,decide_eq_true_eq,decide_eq_false_iff_not,bne_eq_false_iff_eq,beq_eq_false_iff_ne,gt_iff_lt,ne_eq,not_true_eq_false,not_false_eq_true,hal,h1,h3,hltc,hlt,hy,c3,dUn,Bool.not_true,wrap_ok,Int.natCast_add,Int.natCast_one,↓WX,simprocAttr]
 obtain⟨_,T,ho,b,rfl⟩:=this
 exact⟨b,fun st S=>callD_pure rfl (by rw[pureL_cons,D.pure,hp];rfl) ho rfl⟩
end
end Go.Proofs.YtaklebjoenophaaGreat.Dm
