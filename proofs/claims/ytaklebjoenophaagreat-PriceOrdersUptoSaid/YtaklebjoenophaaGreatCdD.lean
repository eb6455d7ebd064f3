/-
  The reference's check of a condition, third part: the parts, and all.
  Lists of violations that grow, whatever is in them; the reference's violations of the numbers of a rule.
-/
import Derived.Test.YtaklebjoenophaaGreatCdB
set_option linter.unusedSimpArgs false
set_option linter.unusedVariables false
namespace Go.Proofs.YtaklebjoenophaaGreat.Dm
open Go Gw
set_option linter.unusedSimpArgs false
set_option linter.unusedSimpArgs false
theorem bulk_text:∀ {l:List ByteArray} {s:ByteArray},s∈l→s.size+1≤bulkLL (l.map Cnd.encT)
 | [],s,h=>by cases h
 |x::l,s,h=>by
  simp only[List.map_cons,bulkLL,bulkL,bulkD]
  rcases List.mem_cons.1 h with rfl |h
  ·omega
  ·have:=bulk_text h;omega
theorem text_len:∀l:List ByteArray,l.length≤bulkLL (l.map Cnd.encT)
 | []=>Nat.zero_le _
 |x::l=>by
  have:=text_len l
  simp only[List.map_cons,bulkLL,bulkL,bulkD,List.length_cons];omega
mutual
def Cnd.Wf:Cnd→Prop
 | .mk _ l _ _ _ pf pt _ _ _=>(-9223372036854775808≤pf∧pt≤9223372036854775807)∧Cnd.Wfs l
def Cnd.Wfs:List Cnd→Prop
 | []=>True
 |c::cs=>c.Wf∧Cnd.Wfs cs
end
theorem Cnd.Wfs.mem:∀ {l:List Cnd},Cnd.Wfs l→∀c∈l,c.Wf
 | [],_,c,h=>by cases h
 |x::l,hw,c,h=>by
  rw[Cnd.Wfs]at hw
  rcases List.mem_cons.1 h with rfl |h
  ·exact hw.1
  ·exact Cnd.Wfs.mem hw.2 c h
theorem Cnd.Wf.get {k u v pf pt pd:Int} {l:List Cnd} {lx tx:Bool} {t:List ByteArray} (h:Cnd.Wf (.mk k l lx u v pf pt pd t tx)):(-9223372036854775808≤pf∧pt≤9223372036854775807)∧∀c∈l,c.Wf:=by
 rw[Cnd.Wf]at h
 exact⟨h.1,fun c hc=>h.2.mem c hc⟩
section
variable {n : Nat}
set_option maxHeartbeats 4000000 in
set_option maxRecDepth 100000 in
theorem part20_c (c:Cnd) (hw:c.Wf) (hb:bulkL c.enc≤1048576) (hn:1050000≤n):∃e:Int,∀st S,callD E (dcall E n) st S 200 [.agg c.enc]=some (.int .i64 e,S):=by
 obtain⟨m,rfl⟩:∃m,n=m+1:=⟨n-1,by omega⟩
 have hp:=Cnd.pure c
 obtain⟨b1,ce⟩:=extra20_c (n:=m) (by omega) c
 obtain⟨b2,cw⟩:=wrong20_c (n:=m) (by omega) c
 cases c with |mk k l lx u v pf pt pd t tx=>?_
 obtain⟨⟨w1,w2⟩,-⟩:=hw.get
 simp only[Cnd.enc]at hp hb ce cw ⊢
 simp only[bulkL,bulkD]at hb
 have htl:=text_len t
 obtain⟨b3,cp⟩:=period20_c (n:=m) (by omega) k
 obtain⟨b4,cc⟩:=codes20_c (n:=m) (by omega) k
 obtain⟨e4,-,c4⟩:=r04Check_c (n:=m) (by omega) pf pt pd w1 w2
 have:WO (dcall E (m+1) 200 [.agg [.int .i64 k,.sl 8 (Cnd.encs l) lx,.int .i64 u,.int .i64 v,.int .i64 pf,.int .i64 pt,.int .i64 pd,.sl 1 (t.map Cnd.encT) tx]] []) fun r T=>∃e:Int,r=.int .i64 e:=by
  refine wo_dcall Tryz.func200 rfl (by decide) rfl 57 rfl (fun a hal ha=>?_)
  have h0:a[0]? =some (.agg [.int .i64 k,.sl 8 (Cnd.encs l) lx,.int .i64 u,.int .i64 v,.int .i64 pf,.int .i64 pt,.int .i64 pd,.sl 1 (t.map Cnd.encT) tx]):=ha 0 (by simp)
  clear ha
  by_cases k1:k<1
  ·simp(maxSteps:=1000000)(disch:=omega)only[push_cast,decide_not,decide_eq_true_eq,decide_eq_false_iff_not,bne_eq_false_iff_eq,beq_eq_false_iff_ne,gt_iff_lt,ne_eq,not_true_eq_false,not_false_eq_true,hal,h0,k1,Tryz.f200,↓WX,simprocAttr]
   exact⟨_,rfl⟩
  by_cases k2:14<k
  ·simp(maxSteps:=1000000)(disch:=omega)only[push_cast,decide_not,decide_eq_true_eq,decide_eq_false_iff_not,bne_eq_false_iff_eq,beq_eq_false_iff_ne,gt_iff_lt,ne_eq,not_true_eq_false,not_false_eq_true,hal,h0,k1,k2,Tryz.f200,↓WX,simprocAttr]
   exact⟨_,rfl⟩
  cases b1
  case true=>
   simp(maxSteps:=1000000)(disch:=omega)only[push_cast,decide_not,decide_eq_true_eq,decide_eq_false_iff_not,bne_eq_false_iff_eq,beq_eq_false_iff_ne,gt_iff_lt,ne_eq,not_true_eq_false,not_false_eq_true,hal,h0,k1,k2,ce,Tryz.f200,↓WX,simprocAttr]
   exact⟨_,rfl⟩
  cases b2
  case true=>
   simp(maxSteps:=1000000)(disch:=omega)only[push_cast,decide_not,decide_eq_true_eq,decide_eq_false_iff_not,bne_eq_false_iff_eq,beq_eq_false_iff_ne,gt_iff_lt,ne_eq,not_true_eq_false,not_false_eq_true,hal,h0,k1,k2,ce,cw,Tryz.f200,↓WX,simprocAttr]
   exact⟨_,rfl⟩
  cases b3
  case true=>
   simp(maxSteps:=1000000)(disch:=omega)only[push_cast,decide_not,decide_eq_true_eq,decide_eq_false_iff_not,bne_eq_false_iff_eq,beq_eq_false_iff_ne,gt_iff_lt,ne_eq,not_true_eq_false,not_false_eq_true,hal,h0,k1,k2,ce,cw,cp,c4,Tryz.f200,↓WX,simprocAttr]
   exact⟨_,rfl⟩
  by_cases q:b4=true∧(t.length:Int)=0
  ·obtain⟨rfl,q⟩:=q
   simp(maxSteps:=1000000)(disch:=omega)only[push_cast,decide_not,decide_eq_true_eq,decide_eq_false_iff_not,bne_eq_false_iff_eq,beq_eq_false_iff_ne,gt_iff_lt,ne_eq,not_true_eq_false,not_false_eq_true,hal,h0,k1,k2,ce,cw,cp,cc,q,Tryz.f200,↓WX,simprocAttr]
   exact⟨_,rfl⟩
  obtain⟨r0,hr0⟩:∃r0:Bool,r0=(b4 && decide ((t.length:Int)=0)):=⟨_,rfl⟩
  have hr1:r0=false:=by
   rw[hr0]
   cases b4
   ·rfl
   ·exact decide_eq_false fun h=>q ⟨rfl,h⟩
  have hr2:b4=true→decide ((t.length:Int)=0)=false:=fun h=>by rw[hr1,h]at hr0;exact hr0.symm
  cases b4
  case' false=>
   simp(maxSteps:=1000000)(disch:=omega)only[push_cast,decide_not,decide_eq_true_eq,decide_eq_false_iff_not,bne_eq_false_iff_eq,beq_eq_false_iff_ne,gt_iff_lt,ne_eq,not_true_eq_false,not_false_eq_true,hal,h0,k1,k2,ce,cw,cp,cc,↓WX,simprocAttr]
  case' true=>
   have hr2:=hr2 rfl
   simp(maxSteps:=1000000)(disch:=omega)only[push_cast,decide_not,decide_eq_true_eq,decide_eq_false_iff_not,bne_eq_false_iff_eq,beq_eq_false_iff_ne,gt_iff_lt,ne_eq,not_true_eq_false,not_false_eq_true,hal,h0,k1,k2,ce,cw,cp,cc,hr2,↓WX,simprocAttr]
  all_goals
   refine wl_loop (fun i a T=>T=[Ob.row 8 [[.int .i64 k,.sl 8 (Cnd.encs l) lx,.int .i64 u,.int .i64 v,.int .i64 pf,.int .i64 pt,.int .i64 pd,.sl 1 (t.map Cnd.encT) tx]]]∧a.length=57∧a[1]? =some (.loc 0 0 0)∧a[3]? =some (.int .i64 i)) t.length ?_ (by omega) ?_
   ·simp(maxSteps:=1000000)(disch:=omega)only[push_cast,decide_not,decide_eq_true_eq,decide_eq_false_iff_not,bne_eq_false_iff_eq,beq_eq_false_iff_ne,gt_iff_lt,ne_eq,not_true_eq_false,not_false_eq_true,hal,h0,Int.natCast_zero,↓WX,simprocAttr]
   clear hal h0 a
   rintro i a T hi ⟨rfl,hal,h1,h3⟩
   rcases Nat.lt_or_eq_of_le hi with hlt |rfl
   case inr=>
    simp(maxSteps:=1000000)(disch:=omega)only[push_cast,decide_not,decide_eq_true_eq,decide_eq_false_iff_not,bne_eq_false_iff_eq,beq_eq_false_iff_ne,gt_iff_lt,ne_eq,not_true_eq_false,not_false_eq_true,hal,h1,h3,Int.lt_irrefl,Tryz.f200,↓WX,simprocAttr]
    exact⟨_,rfl⟩
   obtain⟨x,hx⟩:∃x,t[i]? =some x:=⟨t[i],by simp⟩
   have hltc:(i:Int)<t.length:=by omega
   have hne:¬i=t.length:=by omega
   have hxs:=bulk_text (List.mem_of_getElem? hx)
   obtain⟨d1,cd1⟩:=code20_c (n:=m) (s:=x) (by omega) (by omega) k
   cases d1
   case false=>
    simp(maxSteps:=1000000)(disch:=omega)only[push_cast,decide_not,decide_eq_true_eq,decide_eq_false_iff_not,bne_eq_false_iff_eq,beq_eq_false_iff_ne,gt_iff_lt,ne_eq,not_true_eq_false,not_false_eq_true,hal,h1,h3,hltc,hlt,hx,cd1,dUn,Bool.not_false,Tryz.f200,↓WX,simprocAttr]
    exact⟨_,rfl⟩
   obtain⟨d2,cd2⟩:=has20_c (n:=m) (l:=t.take i) (lx:=false) (by rw[List.length_take];omega) (by omega) x
   rw[List.map_take]at cd2
   cases d2
   case true=>
    simp(maxSteps:=1000000)(disch:=omega)only[push_cast,decide_not,decide_eq_true_eq,decide_eq_false_iff_not,bne_eq_false_iff_eq,beq_eq_false_iff_ne,gt_iff_lt,ne_eq,not_true_eq_false,not_false_eq_true,hal,h1,h3,hltc,hlt,hx,cd1,cd2,hi,hne,Nat.zero_le,and_self,Nat.sub_zero,List.drop_zero,decide_false,Bool.and_false,dUn,Bool.not_true,Tryz.f200,↓WX,simprocAttr]
    exact⟨_,rfl⟩
   simp(maxSteps:=1000000)(disch:=omega)only[push_cast,decide_not,decide_eq_true_eq,decide_eq_false_iff_not,bne_eq_false_iff_eq,beq_eq_false_iff_ne,gt_iff_lt,ne_eq,not_true_eq_false,not_false_eq_true,hal,h1,h3,hltc,hlt,hx,cd1,cd2,hi,hne,Nat.zero_le,and_self,Nat.sub_zero,List.drop_zero,decide_false,Bool.and_false,dUn,Bool.not_true,wrap_ok,Int.natCast_add,Int.natCast_one,↓WX,simprocAttr]
 obtain⟨_,T,ho,b,rfl⟩:=this
 exact⟨b,fun st S=>callD_pure rfl (by rw[pureL_cons,D.pure,hp];rfl) ho rfl⟩
set_option maxHeartbeats 4000000 in
set_option maxRecDepth 100000 in
theorem parts20_c:∀(m:Nat) (n:Nat) (c:Cnd),c.Wf→bulkL c.enc≤m→m≤1048576→2000000+m≤n→∃e:Int,∀st S,callD E (dcall E n) st S 155 [.agg c.enc]=some (.int .i64 e,S)
 |0,n,.mk k l lx u v pf pt pd t tx,_,h,_,_=>by simp only[Cnd.enc,bulkL,bulkD]at h;omega
 |m+1,n,.mk k l lx u v pf pt pd t tx,hwf,h,hm,hn=>by
  obtain⟨n,rfl⟩:∃n',n=n'+1:=⟨n-1,by omega⟩
  have hp:=Cnd.pure (.mk k l lx u v pf pt pd t tx)
  obtain⟨e1,c1⟩:=part20_c (n:=n) (.mk k l lx u v pf pt pd t tx) hwf (by omega) (by omega)
  have hwl:=hwf.get.2
  simp only[Cnd.enc]at h hp c1 ⊢
  simp only[bulkL,bulkD]at h
  have hl:=Cnd.len_le l
  have hel:=Cnd.encs_len l
  have:WO (dcall E (n+1) 155 [.agg [.int .i64 k,.sl 8 (Cnd.encs l) lx,.int .i64 u,.int .i64 v,.int .i64 pf,.int .i64 pt,.int .i64 pd,.sl 1 (t.map Cnd.encT) tx]] []) fun d T=>∃e:Int,d=.int .i64 e:=by
   refine wo_dcall Tryz.func155 rfl (by decide) rfl 27 rfl (fun a hal ha=>?_)
   have h0:a[0]? =some (.agg [.int .i64 k,.sl 8 (Cnd.encs l) lx,.int .i64 u,.int .i64 v,.int .i64 pf,.int .i64 pt,.int .i64 pd,.sl 1 (t.map Cnd.encT) tx]):=ha 0 (by simp)
   clear ha
   by_cases q1:e1=0
   case neg=>
    simp(maxSteps:=1000000)(disch:=omega)only[push_cast,decide_not,decide_eq_true_eq,decide_eq_false_iff_not,bne_eq_false_iff_eq,beq_eq_false_iff_ne,gt_iff_lt,ne_eq,not_true_eq_false,not_false_eq_true,hal,h0,c1,q1,decide_false,decide_true,Bool.not_false,Tryz.f155,↓WX,simprocAttr]
    exact⟨_,rfl⟩
   subst q1
   simp(maxSteps:=1000000)(disch:=omega)only[push_cast,decide_not,decide_eq_true_eq,decide_eq_false_iff_not,bne_eq_false_iff_eq,beq_eq_false_iff_ne,gt_iff_lt,ne_eq,not_true_eq_false,not_false_eq_true,hal,h0,c1,decide_true,Bool.not_true,↓WX,simprocAttr]
   refine wl_loop (fun i a T=>T=[Ob.row 8 [[.int .i64 k,.sl 8 (Cnd.encs l) lx,.int .i64 u,.int .i64 v,.int .i64 pf,.int .i64 pt,.int .i64 pd,.sl 1 (t.map Cnd.encT) tx]]]∧a.length=27∧a[1]? =some (.loc 0 0 0)∧a[4]? =some (.int .i64 i)) l.length ?_ (by omega) ?_
   ·simp(maxSteps:=1000000)(disch:=omega)only[push_cast,decide_not,decide_eq_true_eq,decide_eq_false_iff_not,bne_eq_false_iff_eq,beq_eq_false_iff_ne,gt_iff_lt,ne_eq,not_true_eq_false,not_false_eq_true,hal,h0,Int.natCast_zero,↓WX,simprocAttr]
   clear hal h0 a
   rintro i a T hi ⟨rfl,hal,h1,h4⟩
   rcases Nat.lt_or_eq_of_le hi with hlt |rfl
   case inr=>
    simp(maxSteps:=1000000)(disch:=omega)only[push_cast,decide_not,decide_eq_true_eq,decide_eq_false_iff_not,bne_eq_false_iff_eq,beq_eq_false_iff_ne,gt_iff_lt,ne_eq,not_true_eq_false,not_false_eq_true,hal,h1,h4,hel,Int.lt_irrefl,Tryz.f155,↓WX,simprocAttr]
    exact⟨_,rfl⟩
   obtain⟨x,hx⟩:∃x,l[i]? =some x:=⟨l[i],by simp⟩
   have hltc:(i:Int)<l.length:=by omega
   have hb:=Cnd.bulk_get hx
   obtain⟨e2,cx⟩:=parts20_c m n x (hwl x (List.mem_of_getElem? hx)) (by omega) (by omega) (by omega)
   have hg:=Cnd.encs_get hx
   cases x with |mk k' l' lx' u' v' pf' pt' pd' t' tx'=>?_
   simp only[Cnd.enc]at cx hg
   by_cases q2:e2=0
   case neg=>
    simp(maxSteps:=1000000)(disch:=omega)only[push_cast,decide_not,decide_eq_true_eq,decide_eq_false_iff_not,bne_eq_false_iff_eq,beq_eq_false_iff_ne,gt_iff_lt,ne_eq,not_true_eq_false,not_false_eq_true,hal,h1,h4,hel,hltc,hlt,hg,cx,q2,decide_false,decide_true,Bool.not_false,Tryz.f155,↓WX,simprocAttr]
    exact⟨_,rfl⟩
   subst q2
   simp(maxSteps:=1000000)(disch:=omega)only[push_cast,decide_not,decide_eq_true_eq,decide_eq_false_iff_not,bne_eq_false_iff_eq,beq_eq_false_iff_ne,gt_iff_lt,ne_eq,not_true_eq_false,not_false_eq_true,hal,h1,h4,hel,hltc,hlt,hg,cx,decide_true,Bool.not_true,wrap_ok,Int.natCast_add,Int.natCast_one,↓WX,simprocAttr]
  obtain⟨_,T,ho,e,rfl⟩:=this
  exact⟨e,fun st S=>callD_pure rfl (by rw[pureL_cons,D.pure,hp];rfl) ho rfl⟩
theorem Check20_c (c:Cnd) (hw:c.Wf) (hb:bulkL c.enc≤1048576) (hn:3100000≤n):∃e:Int,∀st S,callD E (dcall E n) st S 108 [.agg c.enc]=some (.int .i64 e,S):=by
 obtain⟨m,rfl⟩:∃m,n=m+1:=⟨n-1,by omega⟩
 have hp:=Cnd.pure c
 have c1:=levels_c 1048576 m c hb (by omega) (by omega)
 have c2:=Size_c 1048576 m c hb (by omega) (by omega)
 obtain⟨e,c3⟩:=parts20_c 1048576 m c hw hb (by omega) (by omega)
 generalize c.lev=lv at*
 generalize c.siz=sz at*
 cases c with |mk k l lx u v pf pt pd t tx=>?_
 simp only[Cnd.enc]at hp c1 c2 c3 ⊢
 have:WO (dcall E (m+1) 108 [.agg [.int .i64 k,.sl 8 (Cnd.encs l) lx,.int .i64 u,.int .i64 v,.int .i64 pf,.int .i64 pt,.int .i64 pd,.sl 1 (t.map Cnd.encT) tx]] []) fun d T=>∃e:Int,d=.int .i64 e:=by
  refine wo_dcall Tryz.func108 rfl (by decide) rfl 13 rfl (fun a hal ha=>?_)
  have h0:a[0]? =some (.agg [.int .i64 k,.sl 8 (Cnd.encs l) lx,.int .i64 u,.int .i64 v,.int .i64 pf,.int .i64 pt,.int .i64 pd,.sl 1 (t.map Cnd.encT) tx]):=ha 0 (by simp)
  clear ha
  by_cases q1:(8:Int)<lv <;> by_cases q2:(128:Int)<sz <;>
   (simp(maxSteps:=1000000)(disch:=omega)only[push_cast,decide_not,decide_eq_true_eq,decide_eq_false_iff_not,bne_eq_false_iff_eq,beq_eq_false_iff_ne,gt_iff_lt,ne_eq,not_true_eq_false,not_false_eq_true,hal,h0,c1,c2,c3,q1,q2,Tryz.f108,↓WX,simprocAttr]
    exact⟨_,rfl⟩)
 obtain⟨_,T,ho,e,rfl⟩:=this
 exact⟨e,fun st S=>callD_pure rfl (by rw[pureL_cons,D.pure,hp];rfl) ho rfl⟩
end
end Go.Proofs.YtaklebjoenophaaGreat.Dm
namespace Go.Proofs.YtaklebjoenophaaGreat.Dm
open Go Gw
set_option linter.unusedSimpArgs false
set_option linter.unusedSimpArgs false

def FS (T:List Ob) (a:Option D) (m z:Nat):Prop:=∃d fs,a=some d∧GL 2 encF T d fs∧fs.length≤m∧∀f∈fs,f.2.size≤z
def FR (d:D) (m z:Nat):Prop:=∃fs:List (Int×ByteArray),FZ d fs∧fs.length≤m∧∀f∈fs,f.2.size≤z
theorem GL_fz {T:List Ob} {d:D} {fs:List (Int×ByteArray)} (h:GL 2 encF T d fs):∃d',freeze T 40 d=some d'∧FZ d' fs:=by
 rcases h with ⟨rfl,rfl⟩ | ⟨k,rfl,hk⟩
 ·exact⟨_,rfl,.inl ⟨rfl,rfl⟩⟩
 ·have:=freeze_os (n:=38) (x:=false) hk (encF_pure fs)
  rw[List.length_map]at this
  exact⟨_,this,.inr ⟨_,rfl⟩⟩
theorem app_s {T:List Ob} {d:D} {fs:List (Int×ByteArray)} {z:Nat} (h:GL 2 encF T d fs) (hl:fs.length≤4999999999999) (hz:∀f∈fs,f.2.size≤z) (b:Bool) (e:Int) (s:ByteArray) (hs:s.size≤z):
  ∃d' T' fs',(b=true→dAppend Tryz.prog T 51 51 d (.sl 2 [[.int .i64 e,.str s]] true)=some (d',T'))∧(b=false→d'=d∧T'=T)∧GL 2 encF T' d' fs'∧fs'.length≤fs.length+1∧(∀f∈fs',f.2.size≤z)∧KeepF T T':=by
 obtain⟨d',T',h1,h2,h3,h4⟩:=app_if h (by omega) b e s
 refine⟨d',T',_,h1,h2,h3,by rw[List.length_append];have:=ifF_len b e s;omega,fun f hf=>?_,h4⟩
 rcases List.mem_append.1 hf with hf |hf
 ·exact hz f hf
 ·unfold ifF at hf
  cases b
  ·simp at hf
  ·have:f=(e,s):=by simpa using hf
   rw[this];exact hs
theorem encZ_pure (l:List Int):pureLL (l.map encZ)=true:=by
 induction l with
 |nil=>rfl
 |cons f fs ih=>rw[List.map_cons,pureLL_cons,ih];rfl
def combT:ByteArray:=ByteArray.mk #[99,111,109,98,105,110,101,32]
section
variable {n : Nat}
set_option maxHeartbeats 8000000 in
set_option maxRecDepth 100000 in
theorem list21_d {l:List Int} {lx:Bool} (hl:l.length≤1048576) (hn:1048700≤n):
  WO (dcall E (n+1) 109 [.sl 1 (l.map encZ) lx] []) fun d T=>∃fs,GL 2 encF T d fs∧fs.length≤2*l.length∧∀f∈fs,f.2.size≤30:=by
 refine wo_dcall Tryz.func109 rfl (by decide) rfl 58 rfl (fun a hal ha=>?_)
 have h0:a[0]? =some (.sl 1 (l.map encZ) lx):=ha 0 (by simp)
 clear ha
 simp(maxSteps:=1000000)(disch:=omega)only[push_cast,decide_not,decide_eq_true_eq,decide_eq_false_iff_not,bne_eq_false_iff_eq,beq_eq_false_iff_ne,gt_iff_lt,ne_eq,not_true_eq_false,not_false_eq_true,hal,h0,↓WX,simprocAttr]
 refine wl_loop (fun i a T=>FS T a[3]? (2*i) 30∧a.length=58∧a[0]? =some (.sl 1 (l.map encZ) lx)∧a[4]? =some (.int .i64 i)) l.length ?_ (by omega) ?_
 ·simp(maxSteps:=1000000)(disch:=omega)only[push_cast,decide_not,decide_eq_true_eq,decide_eq_false_iff_not,bne_eq_false_iff_eq,beq_eq_false_iff_ne,gt_iff_lt,ne_eq,not_true_eq_false,not_false_eq_true,hal,h0,Int.natCast_zero,FS,↓WX,simprocAttr]
  exact⟨_,_,rfl,GL.nil,Nat.zero_le _,fun f h=>by cases h⟩
 clear hal h0 a
 rintro i a T hi ⟨⟨d,fs,h3,hg,hfl,hfz⟩,hal,h0,h4⟩
 rcases Nat.lt_or_eq_of_le hi with hlt |rfl
 case inr=>
  simp(maxSteps:=1000000)(disch:=omega)only[push_cast,decide_not,decide_eq_true_eq,decide_eq_false_iff_not,bne_eq_false_iff_eq,beq_eq_false_iff_ne,gt_iff_lt,ne_eq,not_true_eq_false,not_false_eq_true,hal,h0,h3,h4,Int.lt_irrefl,Tryz.f109,↓WX,simprocAttr]
  exact⟨fs,hg,hfl,hfz⟩
 obtain⟨x,hx⟩:∃x,l[i]? =some x:=⟨l[i],by simp⟩
 have hltc:(i:Int)<l.length:=by omega
 obtain⟨q,hq,cq⟩:=Wb.rdecW (n:=n) (i:=i) (by omega) (by omega)
 have hsz:combT.size=8:=rfl
 have mq:=mx_of (a:=combT) (b:=q) (by omega)
 have hat:(combT++q).size≤30:=by rw[ba_len];omega
 unfold combT at mq
 refine wc_scut (fun a V=>V=T∧a.length=58∧a[0]? =some (.sl 1 (l.map encZ) lx)∧a[3]? =some (d)∧a[4]? =some (.int .i64 i)) ?_ ?_
 ·simp(maxSteps:=1000000)(disch:=omega)only[push_cast,decide_not,decide_eq_true_eq,decide_eq_false_iff_not,bne_eq_false_iff_eq,beq_eq_false_iff_ne,gt_iff_lt,ne_eq,not_true_eq_false,not_false_eq_true,hal,h0,h3,h4,hltc,↓WX,simprocAttr]
 clear hal h0 h3 h4 a
 rintro a V ⟨rfl,hal,h0,h3,h4⟩
 rw[wc_seq,wc_block]
 refine wc_scut (fun a W=>W=V∧a.length=58∧a[0]? =some (.sl 1 (l.map encZ) lx)∧a[3]? =some (d)∧a[4]? =some (.int .i64 i)∧a[5]? =some (.str (combT++q))∧a[6]? =some (.bool false)) ?_ ?_
 ·unfold combT
  simp(maxSteps:=1000000)(disch:=omega)only[push_cast,decide_not,decide_eq_true_eq,decide_eq_false_iff_not,bne_eq_false_iff_eq,beq_eq_false_iff_ne,gt_iff_lt,ne_eq,not_true_eq_false,not_false_eq_true,hal,h0,h3,h4,cq,mq,↓WX,simprocAttr]
 clear hal h0 h3 h4 a
 rintro a W ⟨rfl,hal,h0,h3,h4,h5,h6⟩
 generalize combT++q=at0 at*
 refine wc_scut (fun a V=>(V=W∧∃b,a[6]? =some (.bool b))∧a.length=58∧a[0]? =some (.sl 1 (l.map encZ) lx)∧a[3]? =some (d)∧a[4]? =some (.int .i64 i)∧a[5]? =some (.str at0)) ?_ ?_
 ·simp(maxSteps:=1000000)(disch:=omega)only[push_cast,decide_not,decide_eq_true_eq,decide_eq_false_iff_not,bne_eq_false_iff_eq,beq_eq_false_iff_ne,gt_iff_lt,ne_eq,not_true_eq_false,not_false_eq_true,hal,h0,h3,h4,h5,h6,↓WX,simprocAttr]
  refine wl_loop (fun k a V=>(V=W∧∃b,a[6]? =some (.bool b))∧a.length=58∧a[0]? =some (.sl 1 (l.map encZ) lx)∧a[3]? =some (d)∧a[4]? =some (.int .i64 i)∧a[5]? =some (.str at0)∧a[7]? =some (.int .i64 k)) i ?_ (by omega) ?_
  ·simp(maxSteps:=1000000)(disch:=omega)only[push_cast,decide_not,decide_eq_true_eq,decide_eq_false_iff_not,bne_eq_false_iff_eq,beq_eq_false_iff_ne,gt_iff_lt,ne_eq,not_true_eq_false,not_false_eq_true,hal,h0,h3,h4,h5,h6,Int.natCast_zero,↓WX,simprocAttr]
   exact⟨_,rfl⟩
  clear hal h0 h3 h4 h5 h6 a
  rintro k a V hk ⟨⟨rfl,b,h6⟩,hal,h0,h3,h4,h5,h7⟩
  rcases Nat.lt_or_eq_of_le hk with hkt |rfl
  case inr=>
   simp(maxSteps:=1000000)(disch:=omega)only[push_cast,decide_not,decide_eq_true_eq,decide_eq_false_iff_not,bne_eq_false_iff_eq,beq_eq_false_iff_ne,gt_iff_lt,ne_eq,not_true_eq_false,not_false_eq_true,hal,h0,h3,h4,h5,h6,h7,Int.lt_irrefl,↓WX,simprocAttr]
   exact⟨_,rfl⟩
  obtain⟨y,hy⟩:∃y,l[k]? =some y:=⟨l[k]'(by omega),by simp⟩
  have hktc:(k:Int)<i:=by omega
  have hkl:k<l.length:=by omega
  cases b
  ·simp(maxSteps:=1000000)(disch:=omega)only[push_cast,decide_not,decide_eq_true_eq,decide_eq_false_iff_not,bne_eq_false_iff_eq,beq_eq_false_iff_ne,gt_iff_lt,ne_eq,not_true_eq_false,not_false_eq_true,hal,h0,h3,h4,h5,h6,h7,hktc,hkt,hkl,hlt,hx,hy,wrap_ok,Int.natCast_add,Int.natCast_one,↓WX,simprocAttr]
   exact⟨_,rfl⟩
  ·simp(maxSteps:=1000000)(disch:=omega)only[push_cast,decide_not,decide_eq_true_eq,decide_eq_false_iff_not,bne_eq_false_iff_eq,beq_eq_false_iff_ne,gt_iff_lt,ne_eq,not_true_eq_false,not_false_eq_true,hal,h0,h3,h4,h5,h6,h7,hktc,hkt,hkl,hlt,hx,hy,wrap_ok,Int.natCast_add,Int.natCast_one,↓WX,simprocAttr]
   exact⟨_,rfl⟩
 clear hal h0 h3 h4 h5 h6 a
 rintro a V ⟨⟨rfl,b,h6⟩,hal,h0,h3,h4,h5⟩
 refine wc_scut (fun a V'=>FS V' a[3]? (2*i+1) 30∧a.length=58∧a[0]? =some (.sl 1 (l.map encZ) lx)∧a[4]? =some (.int .i64 i)∧a[5]? =some (.str at0)∧a[6]? =some (.bool b)) ?_ ?_
 ·obtain⟨d1,T1,fs1,p1,q1,g1,l1,z1,k1⟩:=app_s hg (by omega) hfz true 2 at0 hat
  replace p1:=p1 rfl
  by_cases c1:x<1
  ·simp(maxSteps:=1000000)(disch:=omega)only[push_cast,decide_not,decide_eq_true_eq,decide_eq_false_iff_not,bne_eq_false_iff_eq,beq_eq_false_iff_ne,gt_iff_lt,ne_eq,not_true_eq_false,not_false_eq_true,hal,h0,h3,h4,h5,h6,hlt,hx,c1,p1,FS,↓WX,simprocAttr]
   exact⟨_,_,rfl,g1,by omega,z1⟩
  by_cases c2:9999<x
  ·simp(maxSteps:=1000000)(disch:=omega)only[push_cast,decide_not,decide_eq_true_eq,decide_eq_false_iff_not,bne_eq_false_iff_eq,beq_eq_false_iff_ne,gt_iff_lt,ne_eq,not_true_eq_false,not_false_eq_true,hal,h0,h3,h4,h5,h6,hlt,hx,c1,c2,p1,FS,↓WX,simprocAttr]
   exact⟨_,_,rfl,g1,by omega,z1⟩
  simp(maxSteps:=1000000)(disch:=omega)only[push_cast,decide_not,decide_eq_true_eq,decide_eq_false_iff_not,bne_eq_false_iff_eq,beq_eq_false_iff_ne,gt_iff_lt,ne_eq,not_true_eq_false,not_false_eq_true,hal,h0,h3,h4,h5,h6,hlt,hx,c1,c2,FS,↓WX,simprocAttr]
  exact⟨_,_,rfl,hg,by omega,hfz⟩
 clear hal h0 h3 h4 h5 h6 a
 rintro a V' ⟨⟨d1,fs1,h3,g1,l1,z1⟩,hal,h0,h4,h5,h6⟩
 obtain⟨d2,T2,fs2,p2,q2,g2,l2,z2,k2⟩:=app_s g1 (by omega) z1 b 6 at0 hat
 cases b
 ·simp(maxSteps:=1000000)(disch:=omega)only[push_cast,decide_not,decide_eq_true_eq,decide_eq_false_iff_not,bne_eq_false_iff_eq,beq_eq_false_iff_ne,gt_iff_lt,ne_eq,not_true_eq_false,not_false_eq_true,hal,h0,h3,h4,h5,h6,wrap_ok,Int.natCast_add,Int.natCast_one,FS,↓WX,simprocAttr]
  exact⟨hlt,_,_,rfl,g1,by omega,z1⟩
 ·replace p2:=p2 rfl
  simp(maxSteps:=1000000)(disch:=omega)only[push_cast,decide_not,decide_eq_true_eq,decide_eq_false_iff_not,bne_eq_false_iff_eq,beq_eq_false_iff_ne,gt_iff_lt,ne_eq,not_true_eq_false,not_false_eq_true,hal,h0,h3,h4,h5,h6,p2,wrap_ok,Int.natCast_add,Int.natCast_one,FS,↓WX,simprocAttr]
  exact⟨hlt,_,_,rfl,g2,by omega,z2⟩
theorem list21_c {l:List Int} {lx:Bool} (hl:l.length≤1048576) (hn:1048701≤n):∃d,FR d (2*l.length) 30∧∀st S,callD E (dcall E n) st S 109 [.sl 1 (l.map encZ) lx]=some (d,S):=by
 obtain⟨m,rfl⟩:∃m,n=m+1:=⟨n-1,by omega⟩
 obtain⟨d,T,ho,fs,hg,h1,h2⟩:=list21_d (n:=m) (lx:=lx) hl (by omega)
 obtain⟨d',f,hz⟩:=GL_fz hg
 exact⟨d',⟨fs,hz,h1,h2⟩,fun st S=>callD_pure rfl (by simp[pureL_cons,pureL_nil,D.pure,encZ_pure]) ho f⟩
end
end Go.Proofs.YtaklebjoenophaaGreat.Dm
