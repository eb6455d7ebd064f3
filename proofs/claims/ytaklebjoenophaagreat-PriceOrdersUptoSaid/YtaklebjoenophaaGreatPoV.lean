/-
  What is known of a trip: the reference, exactly.
-/
import Derived.Test.YtaklebjoenophaaGreatPoT
set_option linter.unusedSimpArgs false
set_option linter.unusedVariables false
namespace Go.Proofs.YtaklebjoenophaaGreat.Dm
open Go Gw
set_option linter.unusedSimpArgs false
set_option linter.unusedSimpArgs false
theorem GL.one {α:Type} {sz:Nat} {enc:α→List D} {S:List Ob} {d:D} {l:List α} (h:GL sz enc S d l):d.one=true:=by
 rcases h with ⟨rfl,-⟩ | ⟨k,rfl,-⟩ <;> rfl
theorem GL.sets {α:Type} {sz z k:Nat} {enc:α→List D} {S:List Ob} {d:D} {l:List α} {r:List (List D)} (h:GL sz enc S d l) (hk:S[k]? =some (.row z r)) (hz:z≠sz) (o:Ob):GL sz enc (S.set k o) d l:=by
 refine h.keep fun j n hj o' ho=>?_
 rcases h with ⟨h,-⟩ | ⟨i,h,hi⟩
 ·rw[h]at hj
  cases hj
 ·rw[h]at hj
  obtain⟨rfl,-⟩:=D.os.inj hj
  have hne:k≠i:=fun e=>by
   subst e
   rw[hk]at hi
   injection hi with hi
   injection hi with hi _
   exact hz hi
  rw[List.getElem?_set_ne hne]
  exact ho
section
variable {n : Nat}
set_option maxHeartbeats 32000000 in
set_option maxRecDepth 100000 in
theorem Trip25_d (p:Plc) (hpa:p.aps.length≤1048576) (hsh:∀a∈p.aps,a.sh.length≤1048576) (l:List Wnt) (lx:Bool) (hl:l.length≤900) (hl0:l≠[]) (s:ByteArray) (sale:Int) (hn:1048600≤n):
  WO (dcall E (n+1) 83 [.agg p.enc,.sl 8 (l.map Wnt.enc) lx,.str s,.int .i64 sale] []) fun r T=>∃d6 d7 dv,r=.agg ((tripF p l s sale).enc d6 d7 dv)∧GL 1 Cnd.encT T d6 (tripF p l s sale).cars∧GL 1 encZ T d7 (tripF p l s sale).nums∧FLs 1 Cnd.encT dv (tripF p l s sale).vias:=by
 obtain⟨cs,cx,hcf,hcl,hcs⟩:=Cities25_c (n:=n) p hpa l lx (by omega) hl0 (by omega)
 obtain⟨w,hw⟩:∃w,l[0]? =some w:=⟨l[0]'(List.length_pos_iff.2 hl0),by simp⟩
 have hwd:∀d,l.headD d=w:=fun d=>by
  cases l with
  |nil=>exact (hl0 rfl).elim
  |cons a t=>exact Option.some.inj hw
 have h0l:0<l.length:=List.length_pos_iff.2 hl0
 have h0lc:(0:Int)<l.length:=by omega
 have hfd:=fun st S=>PrFind_c (n:=n) (p:=p) (s:=w.fr) (by omega) (by omega) st S
 have hom:∀a,(p.aps.find? fun a=>a.code.toList == w.fr.toList)=some a→a∈p.aps:=fun a h=>List.mem_of_find?_eq_some h
 obtain⟨o,ho⟩:∃o,o=p.aps.find? fun a=>a.code.toList == w.fr.toList:=⟨_,rfl⟩
 have htf:tripF p l s sale=⟨s,sale,dayF (locF o w.dep),mntF (locF o w.dep),(stpN l:Int),((l.length-1-stpN l:Nat):Int),l.map Wnt.car,l.map Wnt.num,(cs.drop 1).take (cs.length-1-1)⟩:=by
  unfold tripF
  simp only[hwd,←ho,hcf]
 rw[←ho]at hfd hom
 clear ho hcf
 have hzl:(zshs o).length≤1048576:=by
  cases o with
  |none=>exact Nat.zero_le _
  |some a=>exact hsh a (hom a rfl)
 have hlo:=local05_x (n:=n) (by omega) (zofs o) (zsh_fls o) hzl w.dep
 have hsp:=split03_x (n:=n) (by omega) (locF o w.dep)
 rw[show IntKind.i64.wrap (w.dep+ofsF w.dep (zofs o) (zshs o))=locF o w.dep from rfl]at hlo
 rw[htf]
 generalize locF o w.dep=lo at*
 generalize dayF lo=dy at*
 generalize mntF lo=mt at*
 clear htf
 have hlz:decide ((l.length:Int)=0)=false:=decide_eq_false (by omega)
 simp only[Plc.enc]at hfd hcs ⊢
 obtain⟨P0,hP0⟩:∃P0:List D,P0=[.sl 5 (p.aps.map Apt.enc) p.apsx,.sl 3 (p.dts.map Dst.enc) p.dtsx]:=⟨_,rfl⟩
 refine wo_dcall Tryz.func83 rfl (by decide) rfl 108 rfl (fun a hal ha=>?_)
 have h0:a[0]? =some (.agg [.sl 5 (p.aps.map Apt.enc) p.apsx,.sl 3 (p.dts.map Dst.enc) p.dtsx]):=ha 0 (by simp)
 have h1:a[1]? =some (.sl 8 (l.map Wnt.enc) lx):=ha 1 (by simp)
 have h2:a[2]? =some (.str s):=ha 2 (by simp)
 have h3:a[3]? =some (.int .i64 sale):=ha 3 (by simp)
 clear ha
 obtain⟨Z0,hZ0⟩:∃Z0:Ob,Z0=Ob.row 9 [[.str (ByteArray.mk #[]),.int .i64 0,.int .i64 0,.int .i64 0,.int .i64 0,.int .i64 0,.nils,.nils,.nils]]:=⟨_,rfl⟩
 refine wc_scut (fun a V=>V=[Ob.row 2 [P0],Z0]∧a.length=108∧a[1]? =some (.sl 8 (l.map Wnt.enc) lx)∧a[2]? =some (.str s)∧a[3]? =some (.int .i64 sale)∧a[4]? =some (.loc 0 0 0)∧a[8]? =some (.loc 1 0 0)) ?_ ?_
 ·simp(maxSteps:=1000000)(disch:=omega)only[push_cast,decide_not,decide_eq_true_eq,decide_eq_false_iff_not,bne_eq_false_iff_eq,beq_eq_false_iff_ne,gt_iff_lt,ne_eq,not_true_eq_false,not_false_eq_true,hal,h0,h1,h2,h3,↓WX,simprocAttr]
  rw[hP0,hZ0]
 clear hal h0 h1 h2 h3 a
 rintro a V ⟨rfl,hal,h1,h2,h3,h4,h8⟩
 refine wc_scut (fun a V=>V=[Ob.row 2 [P0],Z0,Ob.row 9 [[.str s,.int .i64 sale,.int .i64 0,.int .i64 0,.int .i64 0,.int .i64 0,.nils,.nils,.nils]]]∧a.length=108∧a[1]? =some (.sl 8 (l.map Wnt.enc) lx)∧a[4]? =some (.loc 0 0 0)∧a[8]? =some (.loc 1 0 0)∧a[9]? =some (.loc 2 0 0)) ?_ ?_
 ·simp(maxSteps:=1000000)(disch:=omega)only[push_cast,decide_not,decide_eq_true_eq,decide_eq_false_iff_not,bne_eq_false_iff_eq,beq_eq_false_iff_ne,gt_iff_lt,ne_eq,not_true_eq_false,not_false_eq_true,hal,h1,h2,h3,h4,h8,↓WX,simprocAttr]
 clear hal h1 h2 h3 h4 h8 a
 rintro a V ⟨rfl,hal,h1,h4,h8,h9⟩
 refine wc_scut (fun a V=>V=[Ob.row 2 [P0],Z0,Ob.row 9 [[.str s,.int .i64 sale,.int .i64 0,.int .i64 0,.int .i64 0,.int .i64 0,.nils,.nils,.nils]]]∧a.length=108∧a[1]? =some (.sl 8 (l.map Wnt.enc) lx)∧a[4]? =some (.loc 0 0 0)∧a[8]? =some (.loc 1 0 0)∧a[9]? =some (.loc 2 0 0)) ?_ ?_
 ·simp(maxSteps:=1000000)(disch:=omega)only[push_cast,decide_not,decide_eq_true_eq,decide_eq_false_iff_not,bne_eq_false_iff_eq,beq_eq_false_iff_ne,gt_iff_lt,ne_eq,not_true_eq_false,not_false_eq_true,hal,h1,h4,h8,h9,hlz,↓WX,simprocAttr]
 clear hal h1 h4 h8 h9 a
 rintro a V ⟨rfl,hal,h1,h4,h8,h9⟩
 refine wc_scut (fun a V=>(∃ac,V=[Ob.row 2 [P0],Z0,Ob.row 9 [[.str s,.int .i64 sale,.int .i64 0,.int .i64 0,.int .i64 0,.int .i64 0,.nils,.nils,.nils]],Ob.row 5 [ac]]∧∃a b c,ac=[a,b,c,.int .i64 (zofs o),zshD o])∧a.length=108∧a[1]? =some (.sl 8 (l.map Wnt.enc) lx)∧a[4]? =some (.loc 0 0 0)∧a[8]? =some (.loc 1 0 0)∧a[9]? =some (.loc 2 0 0)∧a[10]? =some (.loc 3 0 0)) ?_ ?_
 ·subst hP0
  cases o with
  |none=>
   simp only[foundD,zeroApt]at hfd
   simp(maxSteps:=1000000)(disch:=omega)only[push_cast,decide_not,decide_eq_true_eq,decide_eq_false_iff_not,bne_eq_false_iff_eq,beq_eq_false_iff_ne,gt_iff_lt,ne_eq,not_true_eq_false,not_false_eq_true,hal,h1,h4,h8,h9,h0l,h0lc,hw,hfd,Wnt.enc,↓WX,simprocAttr]
   exact⟨_,rfl,_,_,_,rfl⟩
  |some a=>
   simp only[foundD,Apt.enc]at hfd
   simp(maxSteps:=1000000)(disch:=omega)only[push_cast,decide_not,decide_eq_true_eq,decide_eq_false_iff_not,bne_eq_false_iff_eq,beq_eq_false_iff_ne,gt_iff_lt,ne_eq,not_true_eq_false,not_false_eq_true,hal,h1,h4,h8,h9,h0l,h0lc,hw,hfd,Wnt.enc,↓WX,simprocAttr]
   exact⟨_,rfl,_,_,_,rfl⟩
 clear hal h1 h4 h8 h9 a
 rintro a V ⟨⟨_,rfl,a0,b0,c0,rfl⟩,hal,h1,h4,h8,h9,h10⟩
 clear hfd hom
 refine wc_scut (fun a V=>V=[Ob.row 2 [P0],Z0,Ob.row 9 [[.str s,.int .i64 sale,.int .i64 dy,.int .i64 mt,.int .i64 0,.int .i64 0,.nils,.nils,.nils]],Ob.row 5 [[a0,b0,c0,.int .i64 (zofs o),zshD o]]]∧a.length=108∧a[1]? =some (.sl 8 (l.map Wnt.enc) lx)∧a[4]? =some (.loc 0 0 0)∧a[8]? =some (.loc 1 0 0)∧a[9]? =some (.loc 2 0 0)) ?_ ?_
 ·simp(maxSteps:=1000000)(disch:=omega)only[push_cast,decide_not,decide_eq_true_eq,decide_eq_false_iff_not,bne_eq_false_iff_eq,beq_eq_false_iff_ne,gt_iff_lt,ne_eq,not_true_eq_false,not_false_eq_true,hal,h1,h4,h8,h9,h10,h0l,h0lc,hw,hlo,hsp,Wnt.enc,↓WX,simprocAttr]
 clear hal h1 h4 h8 h9 h10 a
 rintro a V ⟨hV,hal,h1,h4,h8,h9⟩
 refine wc_scut (fun a T=>(∃d6 d7,T[0]? =some (Ob.row 2 [P0])∧T[1]? =some Z0∧T[2]? =some (Ob.row 9 [[.str s,.int .i64 sale,.int .i64 dy,.int .i64 mt,.int .i64 (stpN l),.int .i64 ((l.length-1-stpN l:Nat):Int),d6,d7,.nils]])∧GL 1 Cnd.encT T d6 (l.map Wnt.car)∧GL 1 encZ T d7 (l.map Wnt.num))∧a.length=108∧a[1]? =some (.sl 8 (l.map Wnt.enc) lx)∧a[4]? =some (.loc 0 0 0)∧a[8]? =some (.loc 1 0 0)∧a[9]? =some (.loc 2 0 0)) ?_ ?_
 ·simp(maxSteps:=1000000)(disch:=omega)only[push_cast,decide_not,decide_eq_true_eq,decide_eq_false_iff_not,bne_eq_false_iff_eq,beq_eq_false_iff_ne,gt_iff_lt,ne_eq,not_true_eq_false,not_false_eq_true,hal,h1,h4,h8,h9,↓WX,simprocAttr]
  refine wl_loop (fun i a T=>(∃d6 d7 sn tn,T[0]? =some (Ob.row 2 [P0])∧T[1]? =some Z0∧T[2]? =some (Ob.row 9 [[.str s,.int .i64 sale,.int .i64 dy,.int .i64 mt,.int .i64 sn,.int .i64 tn,d6,d7,.nils]])∧GL 1 Cnd.encT T d6 ((l.take i).map Wnt.car)∧GL 1 encZ T d7 ((l.take i).map Wnt.num)∧Apart d6 d7∧sn=(stpN (l.take i):Int)∧tn=((i-1-stpN (l.take i):Nat):Int))∧a.length=108∧a[1]? =some (.sl 8 (l.map Wnt.enc) lx)∧a[4]? =some (.loc 0 0 0)∧a[8]? =some (.loc 1 0 0)∧a[9]? =some (.loc 2 0 0)∧a[12]? =some (.int .i64 i)) l.length ?_ (by omega) ?_
  ·simp(maxSteps:=1000000)(disch:=omega)only[push_cast,decide_not,decide_eq_true_eq,decide_eq_false_iff_not,bne_eq_false_iff_eq,beq_eq_false_iff_ne,gt_iff_lt,ne_eq,not_true_eq_false,not_false_eq_true,hal,h1,h4,h8,h9,Int.natCast_zero,↓WX,simprocAttr]
   rw[hV]
   exact⟨_,_,_,_,rfl,rfl,rfl,GL.nil,GL.nil,(fun k n k' n' h=>by cases h),rfl,rfl⟩
  clear hal h1 h4 h8 h9 a
  clear hV
  rintro i a T hi ⟨⟨d6,d7,sn,tn,g0,g1,g2,k6,k7,hap,hsn,htn⟩,hal,h1,h4,h8,h9,h12⟩
  rcases Nat.lt_or_eq_of_le hi with hlt |rfl
  case inr=>
   rw[List.take_length]at k6 k7 hsn htn
   simp(maxSteps:=1000000)(disch:=omega)only[push_cast,decide_not,decide_eq_true_eq,decide_eq_false_iff_not,bne_eq_false_iff_eq,beq_eq_false_iff_ne,gt_iff_lt,ne_eq,not_true_eq_false,not_false_eq_true,hal,h1,h4,h8,h9,h12,Int.lt_irrefl,↓WX,simprocAttr]
   exact⟨_,_,g0,g1,by rw[g2,hsn,htn],k6,k7⟩
  have hltc:(i:Int)<l.length:=by omega
  obtain⟨x,hx⟩:∃x,l[i]? =some x:=⟨l[i],by simp⟩
  have hti:(l.take (i+1))=l.take i++[x]:=by rw[List.take_add_one,hx];rfl
  refine wc_scut (fun a W=>W=T∧a.length=108∧a[1]? =some (.sl 8 (l.map Wnt.enc) lx)∧a[4]? =some (.loc 0 0 0)∧a[8]? =some (.loc 1 0 0)∧a[9]? =some (.loc 2 0 0)∧a[12]? =some (.int .i64 i)) ?_ ?_
  ·simp(maxSteps:=1000000)(disch:=omega)only[push_cast,decide_not,decide_eq_true_eq,decide_eq_false_iff_not,bne_eq_false_iff_eq,beq_eq_false_iff_ne,gt_iff_lt,ne_eq,not_true_eq_false,not_false_eq_true,hal,h1,h4,h8,h9,h12,hltc,↓WX,simprocAttr]
  clear hal h1 h4 h8 h9 h12 a
  rintro a W ⟨rfl,hal,h1,h4,h8,h9,h12⟩
  rw[wc_seq,wc_block]
  have hlen6:((l.take i).map Wnt.car).length=i:=by rw[List.length_map,List.length_take];omega
  have hlen7:((l.take i).map Wnt.num).length=i:=by rw[List.length_map,List.length_take];omega
  obtain⟨S1,S2,a1,a2,e1,e2,hk,hg⟩:=two_app g2 (by decide) k6 k7 hap (by omega) (by omega) x.car x.num
  rw[hlen6]at a1 hg
  rw[hlen7]at a2 hg
  have f2:=(hk _ _ _ (by decide) g2).1
  have f2':=(hk _ _ _ (by decide) g2).2
  have hWl:2<W.length:=(List.getElem?_eq_some_iff.1 g2).1
  have hS2:2<S2.length:=by omega
  refine wc_scut (fun a U=>U=S2.set 2 (Ob.row 9 [[.str s,.int .i64 sale,.int .i64 dy,.int .i64 mt,.int .i64 sn,.int .i64 tn,.os W.length 0 (i+1) false,.os S1.length 0 (i+1) false,.nils]])∧a.length=108∧a[1]? =some (.sl 8 (l.map Wnt.enc) lx)∧a[4]? =some (.loc 0 0 0)∧a[8]? =some (.loc 1 0 0)∧a[9]? =some (.loc 2 0 0)∧a[12]? =some (.int .i64 i)) ?_ ?_
  ·rw[wc_plan (p:=(steps [0,1,2,3,4,5,6,7,8,10,12,13] (.both (steps [9,11,14,15,16,17,18,19,20,21,22,23] .done) (.both (steps [11] (.both (steps [9,14,15,16,17,18,19,20,21,22,23] .done) (steps [14,15,16] (.both (steps [9,17,18,19,20,21,22,23] .done) (steps [17,9,18,19,20,21,22,23] .done))))) (steps [14,15,16] (.both (steps [9,11,17,18,19,20,21,22,23] .done) (.both (steps [11] (.both (steps [9,17,18,19,20,21,22,23] .done) (steps [17,9,18,19,20,21,22,23] .done))) (steps [17,18] (.both (steps [9,11,19,20,21,22,23] .done) (steps [11,9,19,20,21,22,23] .done)))))))))) rfl]
   rw[wp_pick rfl]
   simp only[opsOf,List.filterMap_cons,List.filterMap_nil,List.getElem?_toArray,List.getElem?_cons_zero,List.getElem?_cons_succ]
   simp(maxSteps:=1000000)(disch:=omega)only[push_cast,decide_not,decide_eq_true_eq,decide_eq_false_iff_not,bne_eq_false_iff_eq,beq_eq_false_iff_ne,gt_iff_lt,ne_eq,not_true_eq_false,not_false_eq_true,hal,h1,h4,h8,h9,h12,g2,f2,f2',hlt,hltc,hx,hS2,a1,a2,Wnt.enc,List.getElem?_set_self,wp_done,List.set_set,↓set_sorti,id_eq,↓WX,simprocAttr]
   apply wp_both
   ·rw[wp_pick rfl]
    simp only[opsOf,List.filterMap_cons,List.filterMap_nil,List.getElem?_toArray,List.getElem?_cons_zero,List.getElem?_cons_succ]
    simp(maxSteps:=1000000)(disch:=omega)only[push_cast,decide_not,decide_eq_true_eq,decide_eq_false_iff_not,bne_eq_false_iff_eq,beq_eq_false_iff_ne,gt_iff_lt,ne_eq,not_true_eq_false,not_false_eq_true,hal,h1,h4,h8,h9,h12,g2,f2,f2',hlt,hltc,hx,hS2,a1,a2,Wnt.enc,List.getElem?_set_self,wp_done,List.set_set,↓set_sorti,id_eq,↓WX,simprocAttr]
    exact⟨rfl,rfl⟩
   ·apply wp_both
    ·rw[wp_pick rfl]
     simp only[opsOf,List.filterMap_cons,List.filterMap_nil,List.getElem?_toArray,List.getElem?_cons_zero,List.getElem?_cons_succ]
     simp(maxSteps:=1000000)(disch:=omega)only[push_cast,decide_not,decide_eq_true_eq,decide_eq_false_iff_not,bne_eq_false_iff_eq,beq_eq_false_iff_ne,gt_iff_lt,ne_eq,not_true_eq_false,not_false_eq_true,hal,h1,h4,h8,h9,h12,g2,f2,f2',hlt,hltc,hx,hS2,a1,a2,Wnt.enc,List.getElem?_set_self,wp_done,List.set_set,↓set_sorti,id_eq,↓WX,simprocAttr]
     apply wp_both
     ·rw[wp_pick rfl]
      simp only[opsOf,List.filterMap_cons,List.filterMap_nil,List.getElem?_toArray,List.getElem?_cons_zero,List.getElem?_cons_succ]
      simp(maxSteps:=1000000)(disch:=omega)only[push_cast,decide_not,decide_eq_true_eq,decide_eq_false_iff_not,bne_eq_false_iff_eq,beq_eq_false_iff_ne,gt_iff_lt,ne_eq,not_true_eq_false,not_false_eq_true,hal,h1,h4,h8,h9,h12,g2,f2,f2',hlt,hltc,hx,hS2,a1,a2,Wnt.enc,List.getElem?_set_self,wp_done,List.set_set,↓set_sorti,id_eq,↓WX,simprocAttr]
      exact⟨rfl,rfl⟩
     ·rw[wp_pick rfl]
      simp only[opsOf,List.filterMap_cons,List.filterMap_nil,List.getElem?_toArray,List.getElem?_cons_zero,List.getElem?_cons_succ]
      simp(maxSteps:=1000000)(disch:=omega)only[push_cast,decide_not,decide_eq_true_eq,decide_eq_false_iff_not,bne_eq_false_iff_eq,beq_eq_false_iff_ne,gt_iff_lt,ne_eq,not_true_eq_false,not_false_eq_true,hal,h1,h4,h8,h9,h12,g2,f2,f2',hlt,hltc,hx,hS2,a1,a2,Wnt.enc,List.getElem?_set_self,wp_done,List.set_set,↓set_sorti,id_eq,↓WX,simprocAttr]
      apply wp_both
      ·rw[wp_pick rfl]
       simp only[opsOf,List.filterMap_cons,List.filterMap_nil,List.getElem?_toArray,List.getElem?_cons_zero,List.getElem?_cons_succ]
       simp(maxSteps:=1000000)(disch:=omega)only[push_cast,decide_not,decide_eq_true_eq,decide_eq_false_iff_not,bne_eq_false_iff_eq,beq_eq_false_iff_ne,gt_iff_lt,ne_eq,not_true_eq_false,not_false_eq_true,hal,h1,h4,h8,h9,h12,g2,f2,f2',hlt,hltc,hx,hS2,a1,a2,Wnt.enc,List.getElem?_set_self,wp_done,List.set_set,↓set_sorti,id_eq,↓WX,simprocAttr]
       exact⟨rfl,rfl⟩
      ·rw[wp_pick rfl]
       simp only[opsOf,List.filterMap_cons,List.filterMap_nil,List.getElem?_toArray,List.getElem?_cons_zero,List.getElem?_cons_succ]
       simp(maxSteps:=1000000)(disch:=omega)only[push_cast,decide_not,decide_eq_true_eq,decide_eq_false_iff_not,bne_eq_false_iff_eq,beq_eq_false_iff_ne,gt_iff_lt,ne_eq,not_true_eq_false,not_false_eq_true,hal,h1,h4,h8,h9,h12,g2,f2,f2',hlt,hltc,hx,hS2,a1,a2,Wnt.enc,List.getElem?_set_self,wp_done,List.set_set,↓set_sorti,id_eq,↓WX,simprocAttr]
      ·exact⟨rfl,rfl⟩
     ·exact⟨rfl,rfl⟩
    ·rw[wp_pick rfl]
     simp only[opsOf,List.filterMap_cons,List.filterMap_nil,List.getElem?_toArray,List.getElem?_cons_zero,List.getElem?_cons_succ]
     simp(maxSteps:=1000000)(disch:=omega)only[push_cast,decide_not,decide_eq_true_eq,decide_eq_false_iff_not,bne_eq_false_iff_eq,beq_eq_false_iff_ne,gt_iff_lt,ne_eq,not_true_eq_false,not_false_eq_true,hal,h1,h4,h8,h9,h12,g2,f2,f2',hlt,hltc,hx,hS2,a1,a2,Wnt.enc,List.getElem?_set_self,wp_done,List.set_set,↓set_sorti,id_eq,↓WX,simprocAttr]
     apply wp_both
     ·rw[wp_pick rfl]
      simp only[opsOf,List.filterMap_cons,List.filterMap_nil,List.getElem?_toArray,List.getElem?_cons_zero,List.getElem?_cons_succ]
      simp(maxSteps:=1000000)(disch:=omega)only[push_cast,decide_not,decide_eq_true_eq,decide_eq_false_iff_not,bne_eq_false_iff_eq,beq_eq_false_iff_ne,gt_iff_lt,ne_eq,not_true_eq_false,not_false_eq_true,hal,h1,h4,h8,h9,h12,g2,f2,f2',hlt,hltc,hx,hS2,a1,a2,Wnt.enc,List.getElem?_set_self,wp_done,List.set_set,↓set_sorti,id_eq,↓WX,simprocAttr]
      exact⟨rfl,rfl⟩
     ·apply wp_both
      ·rw[wp_pick rfl]
       simp only[opsOf,List.filterMap_cons,List.filterMap_nil,List.getElem?_toArray,List.getElem?_cons_zero,List.getElem?_cons_succ]
       simp(maxSteps:=1000000)(disch:=omega)only[push_cast,decide_not,decide_eq_true_eq,decide_eq_false_iff_not,bne_eq_false_iff_eq,beq_eq_false_iff_ne,gt_iff_lt,ne_eq,not_true_eq_false,not_false_eq_true,hal,h1,h4,h8,h9,h12,g2,f2,f2',hlt,hltc,hx,hS2,a1,a2,Wnt.enc,List.getElem?_set_self,wp_done,List.set_set,↓set_sorti,id_eq,↓WX,simprocAttr]
       apply wp_both
       ·rw[wp_pick rfl]
        simp only[opsOf,List.filterMap_cons,List.filterMap_nil,List.getElem?_toArray,List.getElem?_cons_zero,List.getElem?_cons_succ]
        simp(maxSteps:=1000000)(disch:=omega)only[push_cast,decide_not,decide_eq_true_eq,decide_eq_false_iff_not,bne_eq_false_iff_eq,beq_eq_false_iff_ne,gt_iff_lt,ne_eq,not_true_eq_false,not_false_eq_true,hal,h1,h4,h8,h9,h12,g2,f2,f2',hlt,hltc,hx,hS2,a1,a2,Wnt.enc,List.getElem?_set_self,wp_done,List.set_set,↓set_sorti,id_eq,↓WX,simprocAttr]
        exact⟨rfl,rfl⟩
       ·rw[wp_pick rfl]
        simp only[opsOf,List.filterMap_cons,List.filterMap_nil,List.getElem?_toArray,List.getElem?_cons_zero,List.getElem?_cons_succ]
        simp(maxSteps:=1000000)(disch:=omega)only[push_cast,decide_not,decide_eq_true_eq,decide_eq_false_iff_not,bne_eq_false_iff_eq,beq_eq_false_iff_ne,gt_iff_lt,ne_eq,not_true_eq_false,not_false_eq_true,hal,h1,h4,h8,h9,h12,g2,f2,f2',hlt,hltc,hx,hS2,a1,a2,Wnt.enc,List.getElem?_set_self,wp_done,List.set_set,↓set_sorti,id_eq,↓WX,simprocAttr]
       ·exact⟨rfl,rfl⟩
      ·rw[wp_pick rfl]
       simp only[opsOf,List.filterMap_cons,List.filterMap_nil,List.getElem?_toArray,List.getElem?_cons_zero,List.getElem?_cons_succ]
       simp(maxSteps:=1000000)(disch:=omega)only[push_cast,decide_not,decide_eq_true_eq,decide_eq_false_iff_not,bne_eq_false_iff_eq,beq_eq_false_iff_ne,gt_iff_lt,ne_eq,not_true_eq_false,not_false_eq_true,hal,h1,h4,h8,h9,h12,g2,f2,f2',hlt,hltc,hx,hS2,a1,a2,Wnt.enc,List.getElem?_set_self,wp_done,List.set_set,↓set_sorti,id_eq,↓WX,simprocAttr]
       apply wp_both
       ·rw[wp_pick rfl]
        simp only[opsOf,List.filterMap_cons,List.filterMap_nil,List.getElem?_toArray,List.getElem?_cons_zero,List.getElem?_cons_succ]
        simp(maxSteps:=1000000)(disch:=omega)only[push_cast,decide_not,decide_eq_true_eq,decide_eq_false_iff_not,bne_eq_false_iff_eq,beq_eq_false_iff_ne,gt_iff_lt,ne_eq,not_true_eq_false,not_false_eq_true,hal,h1,h4,h8,h9,h12,g2,f2,f2',hlt,hltc,hx,hS2,a1,a2,Wnt.enc,List.getElem?_set_self,wp_done,List.set_set,↓set_sorti,id_eq,↓WX,simprocAttr]
        exact⟨rfl,rfl⟩
       ·rw[wp_pick rfl]
        simp only[opsOf,List.filterMap_cons,List.filterMap_nil,List.getElem?_toArray,List.getElem?_cons_zero,List.getElem?_cons_succ]
        simp(maxSteps:=1000000)(disch:=omega)only[push_cast,decide_not,decide_eq_true_eq,decide_eq_false_iff_not,bne_eq_false_iff_eq,beq_eq_false_iff_ne,gt_iff_lt,ne_eq,not_true_eq_false,not_false_eq_true,hal,h1,h4,h8,h9,h12,g2,f2,f2',hlt,hltc,hx,hS2,a1,a2,Wnt.enc,List.getElem?_set_self,wp_done,List.set_set,↓set_sorti,id_eq,↓WX,simprocAttr]
       ·exact⟨rfl,rfl⟩
      ·exact⟨rfl,rfl⟩
     ·exact⟨rfl,rfl⟩
    ·exact⟨rfl,rfl⟩
   ·simp(maxSteps:=1000000)(disch:=omega)only[push_cast,decide_not,decide_eq_true_eq,decide_eq_false_iff_not,bne_eq_false_iff_eq,beq_eq_false_iff_ne,gt_iff_lt,ne_eq,not_true_eq_false,not_false_eq_true,hal,h1,h4,h8,h9,h12,↓WX,simprocAttr]
  clear hal h1 h4 h8 h9 h12 a
  have u2:=List.getElem?_set_self (a:=Ob.row 9 [[.str s,.int .i64 sale,.int .i64 dy,.int .i64 mt,.int .i64 sn,.int .i64 tn,.os W.length 0 (i+1) false,.os S1.length 0 (i+1) false,.nils]]) hS2
  obtain⟨hg6,hg7⟩:=hg (Ob.row 9 [[.str s,.int .i64 sale,.int .i64 dy,.int .i64 mt,.int .i64 sn,.int .i64 tn,.os W.length 0 (i+1) false,.os S1.length 0 (i+1) false,.nils]])
  have u0:(S2.set 2 (Ob.row 9 [[.str s,.int .i64 sale,.int .i64 dy,.int .i64 mt,.int .i64 sn,.int .i64 tn,.os W.length 0 (i+1) false,.os S1.length 0 (i+1) false,.nils]]))[0]? =some (Ob.row 2 [P0]):=by
   rw[List.getElem?_set_ne (by omega)]
   exact (hk _ _ _ (by decide) g0).2
  have u1:(S2.set 2 (Ob.row 9 [[.str s,.int .i64 sale,.int .i64 dy,.int .i64 mt,.int .i64 sn,.int .i64 tn,.os W.length 0 (i+1) false,.os S1.length 0 (i+1) false,.nils]]))[1]? =some Z0:=by
   rw[List.getElem?_set_ne (by omega),hZ0]
   exact (hk _ _ _ (by decide) (hZ0 ▸ g1)).2
  have hc6:(l.take i).map Wnt.car++[x.car]=(l.take (i+1)).map Wnt.car:=by rw[hti,List.map_append];rfl
  have hc7:(l.take i).map Wnt.num++[x.num]=(l.take (i+1)).map Wnt.num:=by rw[hti,List.map_append];rfl
  rw[hc6]at hg6 hg
  rw[hc7]at hg7 hg
  have hgs:∀r',GL 1 Cnd.encT ((S2.set 2 (Ob.row 9 [[.str s,.int .i64 sale,.int .i64 dy,.int .i64 mt,.int .i64 sn,.int .i64 tn,.os W.length 0 (i+1) false,.os S1.length 0 (i+1) false,.nils]])).set 2 r') (.os W.length 0 (i+1) false) ((l.take (i+1)).map Wnt.car)∧GL 1 encZ ((S2.set 2 (Ob.row 9 [[.str s,.int .i64 sale,.int .i64 dy,.int .i64 mt,.int .i64 sn,.int .i64 tn,.os W.length 0 (i+1) false,.os S1.length 0 (i+1) false,.nils]])).set 2 r') (.os S1.length 0 (i+1) false) ((l.take (i+1)).map Wnt.num):=fun r'=>by
   rw[List.set_set]
   exact hg r'
  have hap2:Apart (.os W.length 0 (i+1) false) (.os S1.length 0 (i+1) false):=fun k n k' n' h h'=>by
   have h1:=(D.os.inj h).1
   have h2:=(D.os.inj h').1
   omega
  clear hg hk a1 a2 f2 f2' k6 k7 hap hlen6 hlen7 hc6 hc7 g0 g1 g2 hti hZ0 hP0
  have hU2:2<(S2.set 2 (Ob.row 9 [[.str s,.int .i64 sale,.int .i64 dy,.int .i64 mt,.int .i64 sn,.int .i64 tn,.os W.length 0 (i+1) false,.os S1.length 0 (i+1) false,.nils]])).length:=by rw[List.length_set];exact hS2
  generalize S2.set 2 (Ob.row 9 [[.str s,.int .i64 sale,.int .i64 dy,.int .i64 mt,.int .i64 sn,.int .i64 tn,.os W.length 0 (i+1) false,.os S1.length 0 (i+1) false,.nils]])=U at*
  generalize D.os W.length 0 (i+1) false=q6 at*
  generalize D.os S1.length 0 (i+1) false=q7 at*
  rintro a U' ⟨rfl,hal,h1,h4,h8,h9,h12⟩
  rcases i with _ |j
  ·simp(maxSteps:=1000000)(disch:=omega)only[push_cast,decide_not,decide_eq_true_eq,decide_eq_false_iff_not,bne_eq_false_iff_eq,beq_eq_false_iff_ne,gt_iff_lt,ne_eq,not_true_eq_false,not_false_eq_true,hal,h1,h4,h8,h9,h12,hlt,Int.natCast_zero,decide_true,wrap_ok,↓WX,simprocAttr]
   refine⟨_,_,_,_,u0,u1,u2,hg6,hg7,hap2,?_,?_⟩
   ·rw[hsn]
    rcases l with _ | ⟨q,l⟩
    ·cases hlt
    ·rfl
   ·rw[htn]
    rcases l with _ | ⟨q,l⟩
    ·cases hlt
    ·rfl
  obtain⟨y,hy⟩:∃y,l[j]? =some y:=⟨l[j],by simp⟩
  have hlj:j<l.length:=by omega
  have hst:=stpN_take hy hx
  have hle:=stpN_le (l.take (j+1))
  have hws:IntKind.i64.wrap (sn+1)=sn+1:=by
   rw[List.length_take]at hle
   exact wrap_ok (by omega) (by omega)
  have hwt:IntKind.i64.wrap (tn+1)=tn+1:=wrap_ok (by omega) (by omega)
  have s0:∀r,(U'.set 2 r)[0]? =some (Ob.row 2 [P0]):=fun r=>by rw[List.getElem?_set_ne (by omega)];exact u0
  have s1:∀r,(U'.set 2 r)[1]? =some Z0:=fun r=>by rw[List.getElem?_set_ne (by omega)];exact u1
  have s2:∀r,(U'.set 2 r)[2]? =some r:=fun r=>List.getElem?_set_self hU2
  rw[List.length_take]at hle
  have hw1:IntKind.i64.wrap ((j:Int)+1-1)=j:=by rw[show (j:Int)+1-1=j by omega];exact wrap_ok (by omega) (by omega)
  have hne:decide ((j:Int)+1=0)=false:=decide_eq_false (by omega)
  have hge:(0≤(j:Int)+1)=True:=eq_true (by omega)
  have htj:((j:Int)+1).toNat=j+1:=by omega
  by_cases c:1440≤IntKind.i64.wrap (x.dep-y.arr)
  ·rw[if_pos c]at hst
   simp(maxSteps:=1000000)(disch:=omega)only[push_cast,decide_not,decide_eq_true_eq,decide_eq_false_iff_not,bne_eq_false_iff_eq,beq_eq_false_iff_ne,gt_iff_lt,ne_eq,not_true_eq_false,not_false_eq_true,hal,h1,h4,h8,h9,h12,u2,hU2,hne,hge,htj,hw1,hlt,hlj,hx,hy,c,hws,hwt,ge_iff_le,Wnt.enc,wrap_ok,Int.natCast_add,Int.natCast_one,↓WX,simprocAttr]
   refine⟨_,_,_,_,u0,u1,rfl,(hgs _).1,(hgs _).2,hap2,?_,?_⟩ <;> rw[hst] <;> omega
  ·rw[if_neg c]at hst
   simp(maxSteps:=1000000)(disch:=omega)only[push_cast,decide_not,decide_eq_true_eq,decide_eq_false_iff_not,bne_eq_false_iff_eq,beq_eq_false_iff_ne,gt_iff_lt,ne_eq,not_true_eq_false,not_false_eq_true,hal,h1,h4,h8,h9,h12,u2,hU2,hne,hge,htj,hw1,hlt,hlj,hx,hy,c,hws,hwt,ge_iff_le,Wnt.enc,wrap_ok,Int.natCast_add,Int.natCast_one,↓WX,simprocAttr]
   refine⟨_,_,_,_,u0,u1,rfl,(hgs _).1,(hgs _).2,hap2,?_,?_⟩
   ·rw[hst]
    omega
   ·rw[hst]
    omega
 clear hal h1 h4 h8 h9 a
 clear hV
 rintro a T ⟨⟨d6,d7,g0,g1,g2,k6,k7⟩,hal,h1,h4,h8,h9⟩
 subst hP0
 have hlt2:2<T.length:=(List.getElem?_eq_some_iff.1 g2).1
 refine wc_scut (fun a W=>W=T∧a.length=108∧a[4]? =some (.loc 0 0 0)∧a[8]? =some (.loc 1 0 0)∧a[9]? =some (.loc 2 0 0)∧a[13]? =some (.sl 1 (cs.map Cnd.encT) cx)) ?_ ?_
 ·simp(maxSteps:=1000000)(disch:=omega)only[push_cast,decide_not,decide_eq_true_eq,decide_eq_false_iff_not,bne_eq_false_iff_eq,beq_eq_false_iff_ne,gt_iff_lt,ne_eq,not_true_eq_false,not_false_eq_true,hal,h1,h4,h8,h9,g0,hcs,↓WX,simprocAttr]
 clear hal h1 h4 h8 h9 a
 rintro a W ⟨rfl,hal,h4,h8,h9,h13⟩
 have h1c:(1:Int)≤cs.length:=by omega
 have hge:(0≤(cs.length:Int)-1)=True:=eq_true (by omega)
 have htn:((cs.length:Int)-1).toNat=cs.length-1:=by omega
 rw[hZ0]at g1
 have o6:=k6.one
 have o7:=k7.one
 simp only[D.one]at o6 o7
 have hlt1:1<W.length:=by omega
 have h2c:(1≤cs.length-1∧cs.length-1≤cs.length)=True:=eq_true ⟨by omega,by omega⟩
 simp(maxSteps:=1000000)(disch:=omega)only[push_cast,decide_not,decide_eq_true_eq,decide_eq_false_iff_not,bne_eq_false_iff_eq,beq_eq_false_iff_ne,gt_iff_lt,ne_eq,not_true_eq_false,not_false_eq_true,hal,h4,h8,h9,h13,o6,o7,h2c,g1,g2,hlt1,hlt2,hge,htn,wrap_ok,List.getElem?_set_self,Tryz.f83,↓WX,simprocAttr]
 refine⟨d6,d7,.sl 1 (((cs.drop 1).take (cs.length-1-1)).map Cnd.encT) (cx && decide (cs.length-1=cs.length)),by rw[List.map_take,List.map_drop];rfl,(k6.sets g2 (by decide) _).sets (z:=9) (by rw[List.getElem?_set_ne (by omega)];exact g1) (by decide) _,(k7.sets g2 (by decide) _).sets (z:=9) (by rw[List.getElem?_set_ne (by omega)];exact g1) (by decide) _,.inr ⟨_,rfl⟩⟩
theorem freeze_agg9 {T:List Ob} {a:ByteArray} {b c d e f:Int} {x y z x' y' z':D} (fx:freeze T 39 x=some x') (fy:freeze T 39 y=some y') (fz:freeze T 39 z=some z'):freeze T 40 (.agg [.str a,.int .i64 b,.int .i64 c,.int .i64 d,.int .i64 e,.int .i64 f,x,y,z])=some (.agg [.str a,.int .i64 b,.int .i64 c,.int .i64 d,.int .i64 e,.int .i64 f,x',y',z']):=by
 have s1:∀t,freeze T 39 (.str t)=some (.str t):=fun _=>rfl
 have s2:∀t,freeze T 39 (.int .i64 t)=some (.int .i64 t):=fun _=>rfl
 rw[show (40:Nat)=39+1 from rfl,freeze]
 simp only[mapO,s1,s2,fx,fy,fz,Option.map_some]
 split
 ·rename_i h
  simp only[D.pure,pureL_cons,pureL_nil,Bool.and_true,Bool.true_and,Bool.and_eq_true]at h
  obtain⟨h1,h2,h3⟩:=h
  obtain rfl:=Option.some.inj ((freeze_pure h1).symm.trans fx)
  obtain rfl:=Option.some.inj ((freeze_pure h2).symm.trans fy)
  obtain rfl:=Option.some.inj ((freeze_pure h3).symm.trans fz)
  rfl
 ·rfl
theorem freeze_tup2 {T:List Ob} {x x':D} {v:Int} (fx:freeze T 39 x=some x'):freeze T 40 (.tup [x,.int .i64 v])=some (.tup [x',.int .i64 v]):=by
 have s2:∀t,freeze T 39 (.int .i64 t)=some (.int .i64 t):=fun _=>rfl
 rw[show (40:Nat)=39+1 from rfl,freeze]
 simp only[mapO,s2,fx,Option.map_some]
 split
 ·rename_i h
  simp only[D.pure,pureL_cons,pureL_nil,Bool.and_true,Bool.true_and,Bool.and_eq_true]at h
  obtain rfl:=Option.some.inj ((freeze_pure h).symm.trans fx)
  rfl
 ·rfl
theorem Trip25_x (p:Plc) (hpa:p.aps.length≤1048576) (hsh:∀a∈p.aps,a.sh.length≤1048576) (l:List Wnt) (lx:Bool) (hl:l.length≤900) (hl0:l≠[]) (s:ByteArray) (sale:Int) (hn:1048610≤n):
  ∃x y z,(tripF p l s sale).Ok x y z∧∀st S,callD E (dcall E n) st S 83 [.agg p.enc,.sl 8 (l.map Wnt.enc) lx,.str s,.int .i64 sale]=some (.agg ((tripF p l s sale).enc x y z),S):=by
 obtain⟨m,rfl⟩:∃m,n=m+1:=⟨n-1,by omega⟩
 obtain⟨_,T,ho,d6,d7,dv,rfl,k6,k7,kv⟩:=Trip25_d (n:=m) p hpa hsh l lx hl hl0 s sale (by omega)
 obtain⟨x,fx,hx⟩:=k6.flsN (Cnd.encT_pure _) 37
 obtain⟨y,fy,hy⟩:=k7.flsN (encZs_pure' _) 37
 refine⟨x,y,dv,⟨hx,hy,kv,?_,?_,?_⟩,fun st S=>callD_pure rfl (by simp only[pureL_cons,pureL_nil,D.pure,Plc_pure,Wnts_pure,Bool.and_true]) ho ?_⟩
 ·simp only[tripF,List.length_map];omega
 ·simp only[tripF,List.length_map];omega
 ·simp only[tripF,List.length_take,List.length_drop,citF_len p hl0];omega
 ·clear ho
  generalize tripF p l s sale=tf at*
  have fz:freeze T 39 dv=some dv:=freeze_pure (fls_pure kv (Cnd.encT_pure _))
  exact freeze_agg9 fx fy fz
end
end Go.Proofs.YtaklebjoenophaaGreat.Dm
