/-
  The reference's miles between two places: it answers.
-/
import Derived.Test.YtaklebjoenophaaGreatPoG
set_option linter.unusedSimpArgs false
set_option linter.unusedVariables false
namespace Go.Proofs.YtaklebjoenophaaGreat.Dm
open Go Gw
set_option linter.unusedSimpArgs false
set_option linter.unusedSimpArgs false
def nsF (c:ByteArray) (l:List Dst):List ByteArray:=c::l.flatMap fun x=>[x.fr,x.to]
theorem nsF_len (c:ByteArray) (l:List Dst):(nsF c l).length=2*l.length+1:=by
 unfold nsF
 rw[List.length_cons]
 congr 1
 induction l with
 |nil=>rfl
 |cons x xs ih=>rw[List.flatMap_cons,List.length_append,ih,List.length_cons];simp;omega
theorem nsF_fr {c:ByteArray} {l:List Dst} {x:Dst} (h:x∈l):x.fr∈nsF c l:=List.mem_cons_of_mem _ (List.mem_flatMap.2 ⟨x,h,by simp⟩)
theorem nsF_to {c:ByteArray} {l:List Dst} {x:Dst} (h:x∈l):x.to∈nsF c l:=List.mem_cons_of_mem _ (List.mem_flatMap.2 ⟨x,h,by simp⟩)
section
variable {n : Nat}
set_option maxHeartbeats 32000000 in
set_option maxRecDepth 100000 in
theorem Miles06_c (p:Plc) (hpa:p.aps.length≤1048576) (hpd:p.dts.length≤20) (hn:50000000≤n) (s t:ByteArray):∃q e:Int,∀st S,callD E (dcall E n) st S 192 [.agg p.enc,.str s,.str t]=some (.tup [.int .i64 q,.int .i64 e],S):=by
 obtain⟨m,rfl⟩:∃m,n=m+1:=⟨n-1,by omega⟩
 have hp:=Plc_pure p
 have k1:=fun st S=>rCity_c (n:=m) (p:=p) (s:=s) (by omega) (by omega) st S
 have k2:=fun st S=>rCity_c (n:=m) (p:=p) (s:=t) (by omega) (by omega) st S
 simp only[Plc.enc]at hp k1 k2 ⊢
 generalize cityS p s=c at k1
 generalize cityS p t=g at k2
 have hns:(nsF c p.dts).length≤41:=by rw[nsF_len];omega
 have:WO (dcall E (m+1) 192 [.agg [.sl 5 (p.aps.map Apt.enc) p.apsx,.sl 3 (p.dts.map Dst.enc) p.dtsx],.str s,.str t] []) fun r T=>∃q e:Int,r=.tup [.int .i64 q,.int .i64 e]:=by
  refine wo_dcall Tryz.func192 rfl (by decide) rfl 97 rfl (fun a hal ha=>?_)
  have h0:a[0]? =some (.agg [.sl 5 (p.aps.map Apt.enc) p.apsx,.sl 3 (p.dts.map Dst.enc) p.dtsx]):=ha 0 (by simp)
  have h1:a[1]? =some (.str s):=ha 1 (by simp)
  have h2:a[2]? =some (.str t):=ha 2 (by simp)
  clear ha
  obtain⟨P0,hP0⟩:∃P0:Ob,P0=Ob.row 2 [[.sl 5 (p.aps.map Apt.enc) p.apsx,.sl 3 (p.dts.map Dst.enc) p.dtsx]]:=⟨_,rfl⟩
  refine wc_scut (fun a V=>V=[P0]∧a.length=97∧a[1]? =some (.str s)∧a[2]? =some (.str t)∧a[3]? =some (.loc 0 0 0)) ?_ ?_
  ·simp(maxSteps:=1000000)(disch:=omega)only[push_cast,decide_not,decide_eq_true_eq,decide_eq_false_iff_not,bne_eq_false_iff_eq,beq_eq_false_iff_ne,gt_iff_lt,ne_eq,not_true_eq_false,not_false_eq_true,hal,h0,h1,h2,↓WX,simprocAttr]
   rw[hP0]
  clear hal h0 h1 h2 a
  rintro a V ⟨hV,hal,h1,h2,h3⟩
  have hV0:V[0]? =some (Ob.row 2 [[.sl 5 (p.aps.map Apt.enc) p.apsx,.sl 3 (p.dts.map Dst.enc) p.dtsx]]):=by rw[hV,←hP0];rfl
  have hVl:1≤V.length:=by rw[hV];exact Nat.le_refl _
  clear hV hP0
  refine wc_scut (fun a W=>W=V∧a.length=97∧a[3]? =some (.loc 0 0 0)∧a[8]? =some (.str c)∧a[9]? =some (.str g)) ?_ ?_
  ·simp(maxSteps:=1000000)(disch:=omega)only[push_cast,decide_not,decide_eq_true_eq,decide_eq_false_iff_not,bne_eq_false_iff_eq,beq_eq_false_iff_ne,gt_iff_lt,ne_eq,not_true_eq_false,not_false_eq_true,hal,h1,h2,h3,hV0,k1,k2,↓WX,simprocAttr]
  clear hal h1 h2 h3 a
  rintro a W ⟨rfl,hal,h3,h8,h9⟩
  by_cases e1:c=ByteArray.mk #[]
  ·have d1:decide (c=ByteArray.mk #[])=true:=decide_eq_true e1
   simp(maxSteps:=1000000)(disch:=omega)only[push_cast,decide_not,decide_eq_true_eq,decide_eq_false_iff_not,bne_eq_false_iff_eq,beq_eq_false_iff_ne,gt_iff_lt,ne_eq,not_true_eq_false,not_false_eq_true,hal,h3,h8,h9,d1,str_eq,Tryz.f192,↓WX,simprocAttr]
   exact⟨_,_,rfl⟩
  have d1:decide (c=ByteArray.mk #[])=false:=decide_eq_false e1
  by_cases e2:g=ByteArray.mk #[]
  ·have d2:decide (g=ByteArray.mk #[])=true:=decide_eq_true e2
   simp(maxSteps:=1000000)(disch:=omega)only[push_cast,decide_not,decide_eq_true_eq,decide_eq_false_iff_not,bne_eq_false_iff_eq,beq_eq_false_iff_ne,gt_iff_lt,ne_eq,not_true_eq_false,not_false_eq_true,hal,h3,h8,h9,d1,d2,str_eq,Tryz.f192,↓WX,simprocAttr]
   exact⟨_,_,rfl⟩
  have d2:decide (g=ByteArray.mk #[])=false:=decide_eq_false e2
  refine wc_scut (fun a V=>V=W∧a.length=97∧a[3]? =some (.loc 0 0 0)∧a[8]? =some (.str c)∧a[9]? =some (.str g)) ?_ ?_
  ·simp(maxSteps:=1000000)(disch:=omega)only[push_cast,decide_not,decide_eq_true_eq,decide_eq_false_iff_not,bne_eq_false_iff_eq,beq_eq_false_iff_ne,gt_iff_lt,ne_eq,not_true_eq_false,not_false_eq_true,hal,h3,h8,h9,d1,d2,str_eq,↓WX,simprocAttr]
  clear hal h3 h8 h9 a
  rintro a V ⟨rfl,hal,h3,h8,h9⟩
  refine wc_scut (fun a W=>W=V∧a.length=97∧a[3]? =some (.loc 0 0 0)∧a[9]? =some (.str g)∧a[10]? =some (.sl 2 [[.str c,.int .i64 0]] true)) ?_ ?_
  ·simp(maxSteps:=1000000)(disch:=omega)only[push_cast,decide_not,decide_eq_true_eq,decide_eq_false_iff_not,bne_eq_false_iff_eq,beq_eq_false_iff_ne,gt_iff_lt,ne_eq,not_true_eq_false,not_false_eq_true,hal,h3,h8,h9,↓WX,simprocAttr]
  clear hal h3 h8 h9 a
  rintro a W ⟨rfl,hal,h3,h9,h10⟩
  refine wc_scut (fun a V=>V=W∧a.length=97∧a[3]? =some (.loc 0 0 0)∧a[9]? =some (.str g)∧a[10]? =some (.sl 2 [[.str c,.int .i64 0]] true)∧a[11]? =some (.bool true)) ?_ ?_
  ·simp(maxSteps:=1000000)(disch:=omega)only[push_cast,decide_not,decide_eq_true_eq,decide_eq_false_iff_not,bne_eq_false_iff_eq,beq_eq_false_iff_ne,gt_iff_lt,ne_eq,not_true_eq_false,not_false_eq_true,hal,h3,h9,h10,↓WX,simprocAttr]
  clear hal h3 h9 h10 a
  rintro a V ⟨rfl,hal,h3,h9,h10,h11⟩
  have hg0:Gd (nsF c p.dts) [(c,0)]:=⟨by simp,fun q hq=>by obtain rfl:q=(c,0):=by simpa using hq
                                                           exact List.mem_cons_self,fun q hq=>by obtain rfl:q=(c,0):=by simpa using hq
                                                                                                 exact Int.le_refl _,fun q hq=>by obtain rfl:q=(c,0):=by simpa using hq
                                                                                                                                  exact Int.le_refl _⟩
  obtain⟨M0,hM0⟩:∃M0,M0=muF (nsF c p.dts) [(c,0)]:=⟨_,rfl⟩
  have hMb:M0≤36900000:=by
   rw[hM0]
   unfold muF
   have:sumV [(c,(0:Int))]=0:=by simp[sumV]
   rw[this]
   omega
  refine wc_scut (fun a T=>(∃d l,a[10]? =some d∧SpI c 1 T d l∧l.length≤100)∧a.length=97∧a[9]? =some (.str g)) ?_ ?_
  ·simp(maxSteps:=1000000)(disch:=omega)only[push_cast,decide_not,decide_eq_true_eq,decide_eq_false_iff_not,bne_eq_false_iff_eq,beq_eq_false_iff_ne,gt_iff_lt,ne_eq,not_true_eq_false,not_false_eq_true,hal,h3,h9,h10,h11,↓WX,simprocAttr]
   refine wl_loop (fun i a T=>(∃d l b,a[10]? =some d∧a[11]? =some (.bool b)∧SpI c 1 T d l∧Gd (nsF c p.dts) l∧T[0]? =some (Ob.row 2 [[.sl 5 (p.aps.map Apt.enc) p.apsx,.sl 3 (p.dts.map Dst.enc) p.dtsx]])∧1≤T.length∧(b=true→i+muF (nsF c p.dts) l≤M0)∧(i+muF (nsF c p.dts) l≤M0+1))∧a.length=97∧a[3]? =some (.loc 0 0 0)∧a[9]? =some (.str g)) (M0+1) ?_ (by omega) ?_
   ·simp(maxSteps:=1000000)(disch:=omega)only[push_cast,decide_not,decide_eq_true_eq,decide_eq_false_iff_not,bne_eq_false_iff_eq,beq_eq_false_iff_ne,gt_iff_lt,ne_eq,not_true_eq_false,not_false_eq_true,hal,h3,h9,h10,h11,↓WX,simprocAttr]
    exact⟨_,_,_,rfl,rfl,.inl ⟨rfl,rfl⟩,hg0,hV0,hVl,fun _=>by rw[←hM0];omega,by rw[←hM0];omega⟩
   clear hal h3 h9 h10 h11 a
   rintro i a T hi ⟨⟨d,l,b,h10,h11,hs,hg,hT0,hTl,hb1,hb2⟩,hal,h3,h9⟩
   cases b
   ·simp(maxSteps:=1000000)(disch:=omega)only[push_cast,decide_not,decide_eq_true_eq,decide_eq_false_iff_not,bne_eq_false_iff_eq,beq_eq_false_iff_ne,gt_iff_lt,ne_eq,not_true_eq_false,not_false_eq_true,hal,h3,h9,h10,h11,↓WX,simprocAttr]
    have:=hg.len
    exact⟨_,_,rfl,hs,by omega⟩
   replace hb1:=hb1 rfl
   have hlt:i<M0+1:=by omega
   refine wc_scut (fun a V=>V=T∧a.length=97∧a[3]? =some (.loc 0 0 0)∧a[9]? =some (.str g)∧a[10]? =some (d)) ?_ ?_
   ·simp(maxSteps:=1000000)(disch:=omega)only[push_cast,decide_not,decide_eq_true_eq,decide_eq_false_iff_not,bne_eq_false_iff_eq,beq_eq_false_iff_ne,gt_iff_lt,ne_eq,not_true_eq_false,not_false_eq_true,hal,h3,h9,h10,h11,↓WX,simprocAttr]
   clear hal h3 h9 h10 h11 a
   rintro a V ⟨rfl,hal,h3,h9,h10⟩
   rw[wc_block]
   refine wc_scut (fun a W=>W=V∧a.length=97∧a[3]? =some (.loc 0 0 0)∧a[9]? =some (.str g)∧a[10]? =some (d)∧a[11]? =some (.bool false)) ?_ ?_
   ·simp(maxSteps:=1000000)(disch:=omega)only[push_cast,decide_not,decide_eq_true_eq,decide_eq_false_iff_not,bne_eq_false_iff_eq,beq_eq_false_iff_ne,gt_iff_lt,ne_eq,not_true_eq_false,not_false_eq_true,hal,h3,h9,h10,↓WX,simprocAttr]
   clear hal h3 h9 h10 a
   rintro a W ⟨rfl,hal,h3,h9,h10,h11⟩
   simp(maxSteps:=1000000)(disch:=omega)only[push_cast,decide_not,decide_eq_true_eq,decide_eq_false_iff_not,bne_eq_false_iff_eq,beq_eq_false_iff_ne,gt_iff_lt,ne_eq,not_true_eq_false,not_false_eq_true,hal,h3,h9,h10,h11,↓WX,simprocAttr]
   refine wl_loop (fun j a T=>(∃d' l' b',a[10]? =some d'∧a[11]? =some (.bool b')∧SpI c 1 T d' l'∧Gd (nsF c p.dts) l'∧T[0]? =some (Ob.row 2 [[.sl 5 (p.aps.map Apt.enc) p.apsx,.sl 3 (p.dts.map Dst.enc) p.dtsx]])∧1≤T.length∧(b'=true→muF (nsF c p.dts) l'+1≤muF (nsF c p.dts) l)∧muF (nsF c p.dts) l'≤muF (nsF c p.dts) l)∧a.length=97∧a[3]? =some (.loc 0 0 0)∧a[9]? =some (.str g)∧a[12]? =some (.int .i64 j)) p.dts.length ?_ (by omega) ?_
   ·simp(maxSteps:=1000000)(disch:=omega)only[push_cast,decide_not,decide_eq_true_eq,decide_eq_false_iff_not,bne_eq_false_iff_eq,beq_eq_false_iff_ne,gt_iff_lt,ne_eq,not_true_eq_false,not_false_eq_true,hal,h3,h9,h10,h11,Int.natCast_zero,↓WX,simprocAttr]
    exact⟨_,_,_,rfl,rfl,hs,hg,hT0,hTl,fun h=>(by cases h),Nat.le_refl _⟩
   clear hal h3 h9 h10 h11 a
   clear hs hT0 hTl
   rintro j a T hj ⟨⟨d',l',b',h10,h11,hs,hg',hT0,hTl,hm1,hm2⟩,hal,h3,h9,h12⟩
   rcases Nat.lt_or_eq_of_le hj with hjlt |rfl
   case inr=>
    simp(maxSteps:=1000000)(disch:=omega)only[push_cast,decide_not,decide_eq_true_eq,decide_eq_false_iff_not,bne_eq_false_iff_eq,beq_eq_false_iff_ne,gt_iff_lt,ne_eq,not_true_eq_false,not_false_eq_true,hal,h3,h9,h10,h11,h12,hT0,Int.lt_irrefl,hlt,↓WX,simprocAttr]
    exact⟨_,_,_,rfl,rfl,hs,hg',hTl,fun h=>by have:=hm1 h;omega,by omega⟩
   have hjc:(j:Int)<p.dts.length:=by omega
   obtain⟨x,hx⟩:∃x,p.dts[j]? =some x:=⟨p.dts[j],by simp⟩
   have hxm:=List.mem_of_getElem? hx
   refine wc_scut (fun a V=>V=T∧a.length=97∧a[3]? =some (.loc 0 0 0)∧a[9]? =some (.str g)∧a[10]? =some (d')∧a[11]? =some (.bool b')∧a[12]? =some (.int .i64 j)) ?_ ?_
   ·simp(maxSteps:=1000000)(disch:=omega)only[push_cast,decide_not,decide_eq_true_eq,decide_eq_false_iff_not,bne_eq_false_iff_eq,beq_eq_false_iff_ne,gt_iff_lt,ne_eq,not_true_eq_false,not_false_eq_true,hal,h3,h9,h10,h11,h12,hT0,hjc,↓WX,simprocAttr]
   clear hal h3 h9 h10 h11 h12 a
   rintro a V ⟨rfl,hal,h3,h9,h10,h11,h12⟩
   have hs1:=hs.push (.row 3 [x.enc])
   have hT1:(V++[Ob.row 3 [x.enc]])[0]? =some (Ob.row 2 [[.sl 5 (p.aps.map Apt.enc) p.apsx,.sl 3 (p.dts.map Dst.enc) p.dtsx]]):=get_old hT0
   have hd1:(V++[Ob.row 3 [x.enc]])[V.length]? =some (.row 3 [x.enc]):=get_end
   have hl1:1≤(V++[Ob.row 3 [x.enc]]).length:=by rw[List.length_append];omega
   rw[wc_seq,wc_block]
   refine wc_scut (fun a W=>W=V++[.row 3 [x.enc]]∧a.length=97∧a[3]? =some (.loc 0 0 0)∧a[9]? =some (.str g)∧a[10]? =some (d')∧a[11]? =some (.bool b')∧a[12]? =some (.int .i64 j)∧a[13]? =some (.loc V.length 0 0)) ?_ ?_
   ·simp(maxSteps:=1000000)(disch:=omega)only[push_cast,decide_not,decide_eq_true_eq,decide_eq_false_iff_not,bne_eq_false_iff_eq,beq_eq_false_iff_ne,gt_iff_lt,ne_eq,not_true_eq_false,not_false_eq_true,hal,h3,h9,h10,h11,h12,hT0,hjlt,hx,set_end,get_end,Dst.enc,↓WX,simprocAttr]
   clear hal h3 h9 h10 h11 h12 a
   rintro a W ⟨rfl,hal,h3,h9,h10,h11,h12,h13⟩
   generalize V++[Ob.row 3 [x.enc]]=W at*
   generalize V.length=z at*
   have ku:=fun st S=>Pusable_c (n:=m) (by omega) x st S
   simp only[Dst.enc]at ku hd1
   by_cases u1:1≤x.mi∧x.mi≤20000
   case neg=>
    have uf:(decide (1≤x.mi) && decide (x.mi≤20000))=false:=by
     rw[Bool.eq_false_iff]
     intro h
     rw[Bool.and_eq_true,decide_eq_true_eq,decide_eq_true_eq]at h
     exact u1 h
    rw[uf]at ku
    simp(maxSteps:=1000000)(disch:=omega)only[push_cast,decide_not,decide_eq_true_eq,decide_eq_false_iff_not,bne_eq_false_iff_eq,beq_eq_false_iff_ne,gt_iff_lt,ne_eq,not_true_eq_false,not_false_eq_true,hal,h3,h9,h10,h11,h12,h13,hd1,ku,hjlt,Bool.not_false,wrap_ok,Int.natCast_add,Int.natCast_one,↓WX,simprocAttr]
    exact⟨_,_,_,rfl,rfl,hs1,hg',hT1,hl1,hm1,hm2⟩
   have uf:(decide (1≤x.mi) && decide (x.mi≤20000))=true:=by
    rw[Bool.and_eq_true,decide_eq_true_eq,decide_eq_true_eq]
    exact u1
   rw[uf]at ku
   have hlen:=hg'.len
   have cr1:=reached_at (n:=m) hs1 (by omega) (by omega) x.fr
   have cr2:=reached_at (n:=m) hs1 (by omega) (by omega) x.to
   have hw1:=rchF_hi (s:=x.fr) hg'
   have hw2:=rchF_hi (s:=x.to) hg'
   generalize rchF x.fr l'=w1 at*
   generalize rchF x.to l'=w2 at*
   refine wc_scut (fun a V=>V=W∧a.length=97∧a[3]? =some (.loc 0 0 0)∧a[9]? =some (.str g)∧a[10]? =some (d')∧a[11]? =some (.bool b')∧a[12]? =some (.int .i64 j)∧a[13]? =some (.loc z 0 0)) ?_ ?_
   ·simp(maxSteps:=1000000)(disch:=omega)only[push_cast,decide_not,decide_eq_true_eq,decide_eq_false_iff_not,bne_eq_false_iff_eq,beq_eq_false_iff_ne,gt_iff_lt,ne_eq,not_true_eq_false,not_false_eq_true,hal,h3,h9,h10,h11,h12,h13,hd1,ku,Bool.not_true,↓WX,simprocAttr]
   clear hal h3 h9 h10 h11 h12 h13 a
   rintro a V ⟨rfl,hal,h3,h9,h10,h11,h12,h13⟩
   refine wc_scut (fun a W=>W=V∧a.length=97∧a[3]? =some (.loc 0 0 0)∧a[9]? =some (.str g)∧a[10]? =some (d')∧a[11]? =some (.bool b')∧a[12]? =some (.int .i64 j)∧a[13]? =some (.loc z 0 0)∧a[14]? =some (.int .i64 w1)∧a[15]? =some (.int .i64 w2)) ?_ ?_
   ·simp(maxSteps:=1000000)(disch:=omega)only[push_cast,decide_not,decide_eq_true_eq,decide_eq_false_iff_not,bne_eq_false_iff_eq,beq_eq_false_iff_ne,gt_iff_lt,ne_eq,not_true_eq_false,not_false_eq_true,hal,h3,h9,h10,h11,h12,h13,hd1,cr1,cr2,↓WX,simprocAttr]
   clear hal h3 h9 h10 h11 h12 h13 a
   rintro a W ⟨rfl,hal,h3,h9,h10,h11,h12,h13,h14,h15⟩
   refine wc_scut (fun a V=>V=W∧a.length=97∧a[3]? =some (.loc 0 0 0)∧a[9]? =some (.str g)∧a[10]? =some (d')∧a[11]? =some (.bool b')∧a[12]? =some (.int .i64 j)∧a[13]? =some (.loc z 0 0)∧a[14]? =some (.int .i64 w1)∧a[15]? =some (.int .i64 w2)) ?_ ?_
   ·simp(maxSteps:=1000000)(disch:=omega)only[push_cast,decide_not,decide_eq_true_eq,decide_eq_false_iff_not,bne_eq_false_iff_eq,beq_eq_false_iff_ne,gt_iff_lt,ne_eq,not_true_eq_false,not_false_eq_true,hal,h3,h9,h10,h11,h12,h13,h14,h15,↓WX,simprocAttr]
   clear hal h3 h9 h10 h11 h12 h13 h14 h15 a
   rintro a V ⟨rfl,hal,h3,h9,h10,h11,h12,h13,h14,h15⟩
   refine wc_scut (fun a T=>(∃d1 l1 b1,a[10]? =some d1∧a[11]? =some (.bool b1)∧SpI c 1 T d1 l1∧Gd (nsF c p.dts) l1∧T[0]? =some (Ob.row 2 [[.sl 5 (p.aps.map Apt.enc) p.apsx,.sl 3 (p.dts.map Dst.enc) p.dtsx]])∧1≤T.length∧T[z]? =some (.row 3 [[.str x.fr,.str x.to,.int .i64 x.mi]])∧l'.length≤l1.length∧(b1=true→muF (nsF c p.dts) l1+1≤muF (nsF c p.dts) l)∧muF (nsF c p.dts) l1≤muF (nsF c p.dts) l)∧a.length=97∧a[3]? =some (.loc 0 0 0)∧a[9]? =some (.str g)∧a[12]? =some (.int .i64 j)∧a[13]? =some (.loc z 0 0)∧a[15]? =some (.int .i64 w2)) ?_ ?_
   ·by_cases q1:w1≥0
    case neg=>
     have dq:decide (w1≥0)=false:=decide_eq_false q1
     simp(maxSteps:=1000000)(disch:=omega)only[push_cast,decide_not,decide_eq_true_eq,decide_eq_false_iff_not,bne_eq_false_iff_eq,beq_eq_false_iff_ne,gt_iff_lt,ne_eq,not_true_eq_false,not_false_eq_true,hal,h3,h9,h10,h11,h12,h13,h14,h15,dq,↓WX,simprocAttr]
     exact⟨_,_,_,rfl,rfl,hs1,hg',hT1,hl1,hd1,Nat.le_refl _,hm1,hm2⟩
    have dq:decide (w1≥0)=true:=decide_eq_true q1
    have hw:=hw1 q1
    obtain⟨r,U,cre,hsU,hkU,hlU⟩:=reach_at (n:=m) hs1 hl1 (by omega) (by omega) x.to (w1+x.mi) (by omega)
    obtain⟨gU,mU,nU⟩:=reF_good (s:=x.to) (v:=w1+x.mi) hg' hns (nsF_to hxm) (by omega) (by omega)
    have hll:l'.length≤(reF x.to (w1+x.mi) l').1.length:=by
     rcases reF_cases x.to (w1+x.mi) l' with ⟨-,h⟩ | ⟨_,_,-,-,⟨-,h⟩ | ⟨-,h⟩⟩
     ·rw[h];simp
     ·rw[h];exact Nat.le_refl _
     ·rw[h];simp
    generalize reF x.to (w1+x.mi) l'=q at*
    obtain⟨l2,b2⟩:=q
    dsimp only at cre hsU gU mU nU hll
    have hTU:=hkU _ _ (.inl Nat.zero_lt_one) hT1
    have hdU:=hkU _ _ (.inr (fun es h=>by cases h)) hd1
    cases b'
    ·simp(maxSteps:=1000000)(disch:=omega)only[push_cast,decide_not,decide_eq_true_eq,decide_eq_false_iff_not,bne_eq_false_iff_eq,beq_eq_false_iff_ne,gt_iff_lt,ne_eq,not_true_eq_false,not_false_eq_true,hal,h3,h9,h10,h11,h12,h13,h14,h15,dq,hd1,cre,wrap_ok,↓WX,simprocAttr]
     exact⟨_,_,_,rfl,rfl,hsU,gU,hTU,by omega,hdU,hll,fun h=>by have:=nU h;omega,by omega⟩
    ·simp(maxSteps:=1000000)(disch:=omega)only[push_cast,decide_not,decide_eq_true_eq,decide_eq_false_iff_not,bne_eq_false_iff_eq,beq_eq_false_iff_ne,gt_iff_lt,ne_eq,not_true_eq_false,not_false_eq_true,hal,h3,h9,h10,h11,h12,h13,h14,h15,dq,hd1,cre,wrap_ok,↓WX,simprocAttr]
     exact⟨_,_,_,rfl,rfl,hsU,gU,hTU,by omega,hdU,hll,fun h=>by have:=hm1 rfl;omega,by omega⟩
   clear hal h3 h9 h10 h11 h12 h13 h14 h15 a
   clear hs1 hT1 hl1 hd1 cr1 cr2 hm1 hm2 hs hT0 hTl
   rintro a W ⟨⟨d1,l1,b1,h10,h11,hs1,hg1,hT1,hl1,hd1,hll1,hm1,hm2⟩,hal,h3,h9,h12,h13,h15⟩
   have hlen1:=hg1.len
   by_cases q1:w2≥0
   case neg=>
    have dq:decide (w2≥0)=false:=decide_eq_false q1
    simp(maxSteps:=1000000)(disch:=omega)only[push_cast,decide_not,decide_eq_true_eq,decide_eq_false_iff_not,bne_eq_false_iff_eq,beq_eq_false_iff_ne,gt_iff_lt,ne_eq,not_true_eq_false,not_false_eq_true,hal,h3,h9,h10,h11,h12,h13,h15,dq,hjlt,wrap_ok,Int.natCast_add,Int.natCast_one,↓WX,simprocAttr]
    exact⟨_,_,_,rfl,rfl,hs1,hg1,hT1,hl1,hm1,hm2⟩
   have dq:decide (w2≥0)=true:=decide_eq_true q1
   have hw:=hw2 q1
   obtain⟨r,U,cre,hsU,hkU,hlU⟩:=reach_at (n:=m) hs1 hl1 (by omega) (by omega) x.fr (w2+x.mi) (by omega)
   obtain⟨gU,mU,nU⟩:=reF_good (s:=x.fr) (v:=w2+x.mi) hg1 hns (nsF_fr hxm) (by omega) (by omega)
   generalize reF x.fr (w2+x.mi) l1=q at*
   obtain⟨l2,b2⟩:=q
   dsimp only at cre hsU gU mU nU
   have hTU:=hkU _ _ (.inl Nat.zero_lt_one) hT1
   cases b1
   ·simp(maxSteps:=1000000)(disch:=omega)only[push_cast,decide_not,decide_eq_true_eq,decide_eq_false_iff_not,bne_eq_false_iff_eq,beq_eq_false_iff_ne,gt_iff_lt,ne_eq,not_true_eq_false,not_false_eq_true,hal,h3,h9,h10,h11,h12,h13,h15,dq,hd1,cre,hjlt,wrap_ok,Int.natCast_add,Int.natCast_one,↓WX,simprocAttr]
    exact⟨_,_,_,rfl,rfl,hsU,gU,hTU,by omega,fun h=>by have:=nU h;omega,by omega⟩
   ·simp(maxSteps:=1000000)(disch:=omega)only[push_cast,decide_not,decide_eq_true_eq,decide_eq_false_iff_not,bne_eq_false_iff_eq,beq_eq_false_iff_ne,gt_iff_lt,ne_eq,not_true_eq_false,not_false_eq_true,hal,h3,h9,h10,h11,h12,h13,h15,dq,hd1,cre,hjlt,wrap_ok,Int.natCast_add,Int.natCast_one,↓WX,simprocAttr]
    exact⟨_,_,_,rfl,rfl,hsU,gU,hTU,by omega,fun h=>by have:=hm1 rfl;omega,by omega⟩
  clear hal h3 h9 h10 h11 a
  clear hV0 hVl hg0
  rintro a T ⟨⟨d,l,h10,hs,hl⟩,hal,h9⟩
  have cr:=reached_at (n:=m) hs (by omega) (by omega) g
  generalize rchF g l=w at cr
  by_cases q:w<0
  ·simp(maxSteps:=1000000)(disch:=omega)only[push_cast,decide_not,decide_eq_true_eq,decide_eq_false_iff_not,bne_eq_false_iff_eq,beq_eq_false_iff_ne,gt_iff_lt,ne_eq,not_true_eq_false,not_false_eq_true,hal,h9,h10,cr,q,Tryz.f192,↓WX,simprocAttr]
   exact⟨_,_,rfl⟩
  ·simp(maxSteps:=1000000)(disch:=omega)only[push_cast,decide_not,decide_eq_true_eq,decide_eq_false_iff_not,bne_eq_false_iff_eq,beq_eq_false_iff_ne,gt_iff_lt,ne_eq,not_true_eq_false,not_false_eq_true,hal,h9,h10,cr,q,Tryz.f192,↓WX,simprocAttr]
   exact⟨_,_,rfl⟩
 obtain⟨_,T,ho,q,e,rfl⟩:=this
 exact⟨q,e,fun st S=>callD_pure rfl (by simp only[pureL_cons,pureL_nil,D.pure,Bool.and_true]at hp ⊢;exact hp) ho rfl⟩
end
end Go.Proofs.YtaklebjoenophaaGreat.Dm
