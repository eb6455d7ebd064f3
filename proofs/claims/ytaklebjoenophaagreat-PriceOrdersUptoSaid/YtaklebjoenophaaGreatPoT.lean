/-
  Whether a condition holds, and whether a rule allows a trip: the reference, exactly.
  Local times, and what is known of a trip: the reference, exactly.
-/
import Derived.Test.YtaklebjoenophaaGreatPoR
set_option linter.unusedSimpArgs false
set_option linter.unusedVariables false
namespace Go.Proofs.YtaklebjoenophaaGreat.Dm
open Go Gw
set_option linter.unusedSimpArgs false
set_option linter.unusedSimpArgs false
set_option maxHeartbeats 16000000 in
set_option maxRecDepth 100000 in
theorem Holds20_x {t:Trp} {x y z:D} (ht:t.Ok x y z):∀(m:Nat) (n:Nat) (c:Cnd),bulkL c.enc≤m→m≤1048576→1100000+2*m≤n→∀st S,callD E (dcall E n) st S 137 [.agg c.enc,.agg (t.enc x y z)]=some (.bool (hol t c),S)
 |0,n,.mk k l lx u v pf pt pd tx xx,h,_,_=>by simp only[Cnd.enc,bulkL,bulkD]at h;omega
 |m+1,n,.mk k l lx u v pf pt pd tx xx,h,hm,hn=>by
  obtain⟨n,rfl⟩:∃n',n=n'+1+1:=⟨n-2,by omega⟩
  have hp:=Cnd.pure (.mk k l lx u v pf pt pd tx xx)
  have hb:=h
  simp only[Cnd.enc,bulkL,bulkD]at hb
  have hl:=Cnd.len_le l
  have htl:=text_len tx
  have htx:FLs 1 Cnd.encT (.sl 1 (tx.map Cnd.encT) xx) tx:=.inr ⟨_,rfl⟩
  have cc:=count20_x (n:=n) ht (l:=l) (lx:=lx) (by omega) (by omega) (fun c hc st S=>by
   obtain⟨i,hi⟩:=List.getElem?_of_mem hc
   have:=Cnd.bulk_get hi
   exact Holds20_x ht m n c (by omega) (by omega) (by omega) st S)
  have ch:=fun d=>Has04_x (n:=n+1) (by omega) pf pt pd d
  have cw1:=within20_x (n:=n+1) ht.hx ht.lx htx (by omega) (by omega)
  have cw2:=within20_x (n:=n+1) ht.hz ht.lz htx (by omega) (by omega)
  have cb:=between20_x (n:=n+1) ht.hy ht.ly u v (by omega)
  have cs:=has20_x (n:=n+1) htx (by omega) t.typ (by omega)
  have hp2:=ht.pure
  have o1:=fls_one ht.hx
  have o2:=fls_one ht.hy
  have o3:=fls_one ht.hz
  simp only[D.one]at o1 o2 o3
  have hcl:=cnt_le t l
  simp only[Trp.enc,Cnd.enc]at cc hp hp2 ⊢
  have:WO (dcall E (n+1+1) 137 [.agg [.int .i64 k,.sl 8 (Cnd.encs l) lx,.int .i64 u,.int .i64 v,.int .i64 pf,.int .i64 pt,.int .i64 pd,.sl 1 (tx.map Cnd.encT) xx],.agg [.str t.typ,.int .i64 t.sale,.int .i64 t.day,.int .i64 t.mnt,.int .i64 t.stops,.int .i64 t.trs,x,y,z]] []) fun r T=>r=.bool (hol t (.mk k l lx u v pf pt pd tx xx)):=by
   have hel:=Cnd.encs_len l
   unfold hol
   generalize cnt t l=q at*
   generalize (t.cars.all fun s=>tx.any fun x=>decide (x=s))=b1 at*
   generalize (t.nums.all fun x=> !(decide (x<u) || decide (x>v)))=b2 at*
   generalize (t.vias.all fun s=>tx.any fun x=>decide (x=s))=b3 at*
   generalize (tx.any fun x=>decide (x=t.typ))=b4 at*
   have ch1:=ch t.day
   have ch2:=ch t.sale
   generalize perF pf pt pd t.day=b5 at*
   generalize perF pf pt pd t.sale=b6 at*
   obtain⟨typ,sale,day,mnt,stops,trs,cars,nums,vias⟩:=t
   dsimp only at*
   refine wo_dcall Tryz.func137 rfl (by decide) rfl 130 rfl (fun a hal ha=>?_)
   have h0:a[0]? =some (.agg [.int .i64 k,.sl 8 (Cnd.encs l) lx,.int .i64 u,.int .i64 v,.int .i64 pf,.int .i64 pt,.int .i64 pd,.sl 1 (tx.map Cnd.encT) xx]):=ha 0 (by simp)
   have h1:a[1]? =some (.agg [.str typ,.int .i64 sale,.int .i64 day,.int .i64 mnt,.int .i64 stops,.int .i64 trs,x,y,z]):=ha 1 (by simp)
   clear ha
   by_cases k1:k=1
   ·subst k1
    simp(maxSteps:=1000000)(disch:=omega)only[push_cast,decide_not,decide_eq_true_eq,decide_eq_false_iff_not,bne_eq_false_iff_eq,beq_eq_false_iff_ne,gt_iff_lt,ne_eq,not_true_eq_false,not_false_eq_true,hal,h0,h1,o1,o2,o3,decide_true,if_true,Tryz.f137,↓WX,simprocAttr]
   by_cases k2:k=2
   ·subst k2
    simp(maxSteps:=1000000)(disch:=omega)only[push_cast,decide_not,decide_eq_true_eq,decide_eq_false_iff_not,bne_eq_false_iff_eq,beq_eq_false_iff_ne,gt_iff_lt,ne_eq,not_true_eq_false,not_false_eq_true,hal,h0,h1,o1,o2,o3,cc,hel,decide_true,decide_false,if_true,if_false,Tryz.f137,↓WX,simprocAttr]
   by_cases k3:k=3
   ·subst k3
    simp(maxSteps:=1000000)(disch:=omega)only[push_cast,decide_not,decide_eq_true_eq,decide_eq_false_iff_not,bne_eq_false_iff_eq,beq_eq_false_iff_ne,gt_iff_lt,ne_eq,not_true_eq_false,not_false_eq_true,hal,h0,h1,o1,o2,o3,cc,decide_true,decide_false,if_true,if_false,Tryz.f137,↓WX,simprocAttr]
   by_cases k4:k=4
   ·subst k4
    simp(maxSteps:=1000000)(disch:=omega)only[push_cast,decide_not,decide_eq_true_eq,decide_eq_false_iff_not,bne_eq_false_iff_eq,beq_eq_false_iff_ne,gt_iff_lt,ne_eq,not_true_eq_false,not_false_eq_true,hal,h0,h1,o1,o2,o3,cc,decide_true,decide_false,if_true,if_false,Tryz.f137,↓WX,simprocAttr]
   by_cases k5:k=5
   ·subst k5
    simp(maxSteps:=1000000)(disch:=omega)only[push_cast,decide_not,decide_eq_true_eq,decide_eq_false_iff_not,bne_eq_false_iff_eq,beq_eq_false_iff_ne,gt_iff_lt,ne_eq,not_true_eq_false,not_false_eq_true,hal,h0,h1,o1,o2,o3,ch1,decide_true,decide_false,if_true,if_false,Tryz.f137,↓WX,simprocAttr]
   by_cases k6:k=6
   ·subst k6
    simp(maxSteps:=1000000)(disch:=omega)only[push_cast,decide_not,decide_eq_true_eq,decide_eq_false_iff_not,bne_eq_false_iff_eq,beq_eq_false_iff_ne,gt_iff_lt,ne_eq,not_true_eq_false,not_false_eq_true,hal,h0,h1,o1,o2,o3,ch2,decide_true,decide_false,if_true,if_false,Tryz.f137,↓WX,simprocAttr]
   by_cases k7:k=7
   ·subst k7
    simp(maxSteps:=1000000)(disch:=omega)only[push_cast,decide_not,decide_eq_true_eq,decide_eq_false_iff_not,bne_eq_false_iff_eq,beq_eq_false_iff_ne,gt_iff_lt,ne_eq,not_true_eq_false,not_false_eq_true,hal,h0,h1,o1,o2,o3,decide_true,decide_false,if_true,if_false,Tryz.f137,↓WX,simprocAttr]
   by_cases k8:k=8
   ·subst k8
    by_cases e:u≤v
    ·cases e1:decide (mnt≥u)
     ·simp(maxSteps:=1000000)(disch:=omega)only[push_cast,decide_not,decide_eq_true_eq,decide_eq_false_iff_not,bne_eq_false_iff_eq,beq_eq_false_iff_ne,gt_iff_lt,ne_eq,not_true_eq_false,not_false_eq_true,hal,h0,h1,o1,o2,o3,e,e1,decide_true,decide_false,if_true,if_false,Bool.false_and,Tryz.f137,↓WX,simprocAttr]
     ·simp(maxSteps:=1000000)(disch:=omega)only[push_cast,decide_not,decide_eq_true_eq,decide_eq_false_iff_not,bne_eq_false_iff_eq,beq_eq_false_iff_ne,gt_iff_lt,ne_eq,not_true_eq_false,not_false_eq_true,hal,h0,h1,o1,o2,o3,e,e1,decide_true,decide_false,if_true,if_false,Bool.true_and,Tryz.f137,↓WX,simprocAttr]
    ·cases e1:decide (mnt≥u)
     ·simp(maxSteps:=1000000)(disch:=omega)only[push_cast,decide_not,decide_eq_true_eq,decide_eq_false_iff_not,bne_eq_false_iff_eq,beq_eq_false_iff_ne,gt_iff_lt,ne_eq,not_true_eq_false,not_false_eq_true,hal,h0,h1,o1,o2,o3,e,e1,decide_true,decide_false,if_true,if_false,Bool.false_or,Tryz.f137,↓WX,simprocAttr]
     ·simp(maxSteps:=1000000)(disch:=omega)only[push_cast,decide_not,decide_eq_true_eq,decide_eq_false_iff_not,bne_eq_false_iff_eq,beq_eq_false_iff_ne,gt_iff_lt,ne_eq,not_true_eq_false,not_false_eq_true,hal,h0,h1,o1,o2,o3,e,e1,decide_true,decide_false,if_true,if_false,Bool.true_or,Tryz.f137,↓WX,simprocAttr]
   by_cases k9:k=9
   ·subst k9
    simp(maxSteps:=1000000)(disch:=omega)only[push_cast,decide_not,decide_eq_true_eq,decide_eq_false_iff_not,bne_eq_false_iff_eq,beq_eq_false_iff_ne,gt_iff_lt,ne_eq,not_true_eq_false,not_false_eq_true,hal,h0,h1,o1,o2,o3,decide_true,decide_false,if_true,if_false,Tryz.f137,↓WX,simprocAttr]
   by_cases k10:k=10
   ·subst k10
    simp(maxSteps:=1000000)(disch:=omega)only[push_cast,decide_not,decide_eq_true_eq,decide_eq_false_iff_not,bne_eq_false_iff_eq,beq_eq_false_iff_ne,gt_iff_lt,ne_eq,not_true_eq_false,not_false_eq_true,hal,h0,h1,o1,o2,o3,decide_true,decide_false,if_true,if_false,Tryz.f137,↓WX,simprocAttr]
   by_cases k11:k=11
   ·subst k11
    simp(maxSteps:=1000000)(disch:=omega)only[push_cast,decide_not,decide_eq_true_eq,decide_eq_false_iff_not,bne_eq_false_iff_eq,beq_eq_false_iff_ne,gt_iff_lt,ne_eq,not_true_eq_false,not_false_eq_true,hal,h0,h1,o1,o2,o3,cw1,decide_true,decide_false,if_true,if_false,Tryz.f137,↓WX,simprocAttr]
   by_cases k12:k=12
   ·subst k12
    simp(maxSteps:=1000000)(disch:=omega)only[push_cast,decide_not,decide_eq_true_eq,decide_eq_false_iff_not,bne_eq_false_iff_eq,beq_eq_false_iff_ne,gt_iff_lt,ne_eq,not_true_eq_false,not_false_eq_true,hal,h0,h1,o1,o2,o3,cb,decide_true,decide_false,if_true,if_false,Tryz.f137,↓WX,simprocAttr]
   by_cases k13:k=13
   ·subst k13
    simp(maxSteps:=1000000)(disch:=omega)only[push_cast,decide_not,decide_eq_true_eq,decide_eq_false_iff_not,bne_eq_false_iff_eq,beq_eq_false_iff_ne,gt_iff_lt,ne_eq,not_true_eq_false,not_false_eq_true,hal,h0,h1,o1,o2,o3,cw2,decide_true,decide_false,if_true,if_false,Tryz.f137,↓WX,simprocAttr]
   simp(maxSteps:=1000000)(disch:=omega)only[push_cast,decide_not,decide_eq_true_eq,decide_eq_false_iff_not,bne_eq_false_iff_eq,beq_eq_false_iff_ne,gt_iff_lt,ne_eq,not_true_eq_false,not_false_eq_true,hal,h0,h1,o1,o2,o3,k1,k2,k3,k4,k5,k6,k7,k8,k9,k10,k11,k12,k13,cs,decide_true,decide_false,if_true,if_false,Tryz.f137,↓WX,simprocAttr]
  obtain⟨_,T,hr,rfl⟩:=this
  exact fun st S=>callD_pure rfl (by simp only[pureL_cons,pureL_nil,D.pure,hp,hp2,Bool.and_true]) hr rfl
def alwF (o:Option Rul) (t:Trp):Int:=match o with |none=>20 |some r=>if hol t r.when=true then 0 else 20
section
variable {n : Nat}
set_option maxHeartbeats 8000000 in
set_option maxRecDepth 100000 in
theorem Holds20_z {t:Trp} {x y z:D} (ht:t.Ok x y z) (hn:1048600≤n):∀st S,callD E (dcall E n) st S 137 [.agg [.int .i64 0,.nils,.int .i64 0,.int .i64 0,.int .i64 0,.int .i64 0,.int .i64 0,.nils],.agg (t.enc x y z)]=some (.bool false,S):=by
 obtain⟨m,rfl⟩:∃m,n=m+1:=⟨n-1,by omega⟩
 have cs:=has20_x (n:=m) (d:=.nils) (l:=[]) (.inl ⟨rfl,rfl⟩) (by simp) t.typ (by omega)
 rw[List.any_nil]at cs
 have hp2:=ht.pure
 have o1:=fls_one ht.hx
 have o2:=fls_one ht.hy
 have o3:=fls_one ht.hz
 simp only[D.one]at o1 o2 o3
 simp only[Trp.enc]at hp2 ⊢
 have:WO (dcall E (m+1) 137 [.agg [.int .i64 0,.nils,.int .i64 0,.int .i64 0,.int .i64 0,.int .i64 0,.int .i64 0,.nils],.agg [.str t.typ,.int .i64 t.sale,.int .i64 t.day,.int .i64 t.mnt,.int .i64 t.stops,.int .i64 t.trs,x,y,z]] []) fun r T=>r=.bool false:=by
  refine wo_dcall Tryz.func137 rfl (by decide) rfl 130 rfl (fun a hal ha=>?_)
  have h0:a[0]? =some (.agg [.int .i64 0,.nils,.int .i64 0,.int .i64 0,.int .i64 0,.int .i64 0,.int .i64 0,.nils]):=ha 0 (by simp)
  have h1:a[1]? =some (.agg [.str t.typ,.int .i64 t.sale,.int .i64 t.day,.int .i64 t.mnt,.int .i64 t.stops,.int .i64 t.trs,x,y,z]):=ha 1 (by simp)
  clear ha
  simp(maxSteps:=1000000)(disch:=omega)only[push_cast,decide_not,decide_eq_true_eq,decide_eq_false_iff_not,bne_eq_false_iff_eq,beq_eq_false_iff_ne,gt_iff_lt,ne_eq,not_true_eq_false,not_false_eq_true,hal,h0,h1,o1,o2,o3,cs,decide_false,Tryz.f137,↓WX,simprocAttr]
 obtain⟨_,T,hr,rfl⟩:=this
 exact fun st S=>callD_pure rfl (by simp only[pureL_cons,pureL_nil,D.pure,hp2,Bool.and_true]) hr rfl
set_option maxHeartbeats 8000000 in
set_option maxRecDepth 100000 in
theorem Allows21_x {t:Trp} {x y z:D} (ht:t.Ok x y z) (o:Option Rul) (hb:∀r,o=some r→bulkL r.when.enc≤1048576) (hn:3200010≤n):∀st S,callD E (dcall E n) st S 82 [rulD o,.agg (t.enc x y z)]=some (.int .i64 (alwF o t),S):=by
 obtain⟨m,rfl⟩:∃m,n=m+1:=⟨n-1,by omega⟩
 have hp1:=rulD_pure o
 have hp2:=ht.pure
 have o1:=fls_one ht.hx
 have o2:=fls_one ht.hy
 have o3:=fls_one ht.hz
 simp only[D.one]at o1 o2 o3
 have:WO (dcall E (m+1) 82 [rulD o,.agg (t.enc x y z)] []) fun r T=>r=.int .i64 (alwF o t):=by
  cases o with
  |none=>
   have ch:=Holds20_z (n:=m) ht (by omega)
   simp only[Trp.enc]at ch ⊢
   simp only[rulD,alwF]
   refine wo_dcall Tryz.func82 rfl (by decide) rfl 9 rfl (fun a hal ha=>?_)
   have h0:a[0]? =some (.agg [.int .i64 0,.int .i64 0,.nils,.int .i64 0,.int .i64 0,.int .i64 0,.int .i64 0,.int .i64 0,.nils,.nils,.int .i64 0,.int .i64 0,.int .i64 0,.int .i64 0,.nils]):=ha 0 (by simp)
   have h1:a[1]? =some (.agg [.str t.typ,.int .i64 t.sale,.int .i64 t.day,.int .i64 t.mnt,.int .i64 t.stops,.int .i64 t.trs,x,y,z]):=ha 1 (by simp)
   clear ha
   simp(maxSteps:=1000000)(disch:=omega)only[push_cast,decide_not,decide_eq_true_eq,decide_eq_false_iff_not,bne_eq_false_iff_eq,beq_eq_false_iff_ne,gt_iff_lt,ne_eq,not_true_eq_false,not_false_eq_true,hal,h0,h1,o1,o2,o3,ch,Tryz.f82,↓WX,simprocAttr]
  |some r=>
   have hb:=hb r rfl
   have ch:=Holds20_x ht 1048576 m r.when hb (by omega) (by omega)
   simp only[rulD,alwF]
   generalize hol t r.when=b at*
   obtain⟨w,hw⟩:∃w,r.when=w:=⟨_,rfl⟩
   have hxe:Rul.enc r=.int .i64 r.num::(w.enc++[.sl 1 (r.comb.map encZ) r.combx,.int .i64 r.mins,.int .i64 r.maxs,.int .i64 r.chg,.int .i64 r.ref,.sl 2 (r.pcs.map encPc) r.pcx]):=by rw[←hw];rfl
   rw[hw]at ch
   cases w with |mk k' l' lx' u' v' pf' pt' pd' t' tx'=>?_
   simp only[Cnd.enc,List.cons_append,List.nil_append]at hxe ch
   simp only[Trp.enc]at ch ⊢
   rw[hxe]
   refine wo_dcall Tryz.func82 rfl (by decide) rfl 9 rfl (fun a hal ha=>?_)
   have h0:a[0]? =some (.agg [.int .i64 r.num,.int .i64 k',.sl 8 (Cnd.encs l') lx',.int .i64 u',.int .i64 v',.int .i64 pf',.int .i64 pt',.int .i64 pd',.sl 1 (t'.map Cnd.encT) tx',.sl 1 (r.comb.map encZ) r.combx,.int .i64 r.mins,.int .i64 r.maxs,.int .i64 r.chg,.int .i64 r.ref,.sl 2 (r.pcs.map encPc) r.pcx]):=ha 0 (by simp)
   have h1:a[1]? =some (.agg [.str t.typ,.int .i64 t.sale,.int .i64 t.day,.int .i64 t.mnt,.int .i64 t.stops,.int .i64 t.trs,x,y,z]):=ha 1 (by simp)
   clear ha
   cases b
   ·simp(maxSteps:=1000000)(disch:=omega)only[push_cast,decide_not,decide_eq_true_eq,decide_eq_false_iff_not,bne_eq_false_iff_eq,beq_eq_false_iff_ne,gt_iff_lt,ne_eq,not_true_eq_false,not_false_eq_true,hal,h0,h1,o1,o2,o3,ch,if_false,Bool.false_eq_true,Tryz.f82,↓WX,simprocAttr]
   ·simp(maxSteps:=1000000)(disch:=omega)only[push_cast,decide_not,decide_eq_true_eq,decide_eq_false_iff_not,bne_eq_false_iff_eq,beq_eq_false_iff_ne,gt_iff_lt,ne_eq,not_true_eq_false,not_false_eq_true,hal,h0,h1,o1,o2,o3,ch,if_true,Tryz.f82,↓WX,simprocAttr]
 obtain⟨_,T,hr,rfl⟩:=this
 exact fun st S=>callD_pure rfl (by simp only[pureL_cons,pureL_nil,D.pure,hp1,hp2,Bool.and_true]) hr rfl
end
end Go.Proofs.YtaklebjoenophaaGreat.Dm
namespace Go.Proofs.YtaklebjoenophaaGreat.Dm
open Go Gw
set_option linter.unusedSimpArgs false
set_option linter.unusedSimpArgs false
def ofsF (u:Int):Int→List Shf→Int
 |q,[]=>q
 |q,x::xs=>ofsF u (if x.tm≤u then x.off else q) xs
def zofs (o:Option Apt):Int:=match o with |none=>0 |some a=>a.off
def zshs (o:Option Apt):List Shf:=match o with |none=>[] |some a=>a.sh
def zshD (o:Option Apt):D:=match o with |none=>.nils |some a=>.sl 2 (a.sh.map Shf.enc) a.shx
theorem zsh_fls (o:Option Apt):FLs 2 Shf.enc (zshD o) (zshs o):=by
 cases o with
 |none=>exact .inl ⟨rfl,rfl⟩
 |some a=>exact .inr ⟨_,rfl⟩
def locF (o:Option Apt) (u:Int):Int:=IntKind.i64.wrap (u+ofsF u (zofs o) (zshs o))
def dayF (x:Int):Int:=if x.tmod 1440<0 then IntKind.i64.wrap (IntKind.i64.wrap (x.tdiv 1440)-1) else IntKind.i64.wrap (x.tdiv 1440)
def mntF (x:Int):Int:=if x.tmod 1440<0 then IntKind.i64.wrap (x.tmod 1440+1440) else x.tmod 1440
def stpN:List Wnt→Nat
 |a::b::r=>(if 1440≤IntKind.i64.wrap (b.dep-a.arr) then 1 else 0)+stpN (b::r)
 |_=>0
theorem stpN_snoc (y x:Wnt):∀l:List Wnt,stpN (l++[y,x])=stpN (l++[y])+(if 1440≤IntKind.i64.wrap (x.dep-y.arr) then 1 else 0)
 | []=>by simp[stpN]
 | [a]=>by simp[stpN,Nat.add_assoc,Nat.add_comm]
 |a::b::r=>by
  have:=stpN_snoc y x (b::r)
  simp only[List.cons_append,stpN]at this ⊢
  rw[this,Nat.add_assoc]
theorem stpN_take {l:List Wnt} {i:Nat} {x y:Wnt} (hy:l[i]? =some y) (hx:l[i+1]? =some x):stpN (l.take (i+1+1))=stpN (l.take (i+1))+(if 1440≤IntKind.i64.wrap (x.dep-y.arr) then 1 else 0):=by
 rw[List.take_add_one,hx,List.take_add_one,hy,List.append_assoc]
 exact stpN_snoc y x _
theorem stpN_le:∀l:List Wnt,stpN l≤l.length-1
 | []=>Nat.le_refl _
 | [_]=>Nat.le_refl _
 |a::b::r=>by
  have:=stpN_le (b::r)
  simp only[stpN,List.length_cons]at this ⊢
  split <;> omega
def tripF (p:Plc) (l:List Wnt) (s:ByteArray) (sale:Int):Trp:=
 let w:=l.headD ⟨ByteArray.mk #[],0,0,ByteArray.mk #[],ByteArray.mk #[],0,0,ByteArray.mk #[]⟩
 let x:=locF (p.aps.find? fun a=>a.code.toList == w.fr.toList) w.dep
 ⟨s,sale,dayF x,mntF x,(stpN l:Int),((l.length-1-stpN l:Nat):Int),l.map Wnt.car,l.map Wnt.num,((citF p l).drop 1).take ((citF p l).length-1-1)⟩
theorem GL.flsN {α:Type} {sz:Nat} {enc:α→List D} {S:List Ob} {d:D} {l:List α} (h:GL sz enc S d l) (hp:pureLL (l.map enc)=true) (m:Nat):∃d',freeze S (m+2) d=some d'∧FLs sz enc d' l:=by
 rcases h with ⟨rfl,rfl⟩ | ⟨k,rfl,hk⟩
 ·exact⟨_,rfl,.inl ⟨rfl,rfl⟩⟩
 ·have:=freeze_os (n:=m) (x:=false) hk hp
  rw[List.length_map]at this
  exact⟨_,this,.inr ⟨_,rfl⟩⟩
def Apart (d e:D):Prop:=∀k n k' n',d=.os k 0 n false→e=.os k' 0 n' false→k≠k'
theorem GL.keep {α:Type} {sz:Nat} {enc:α→List D} {S T:List Ob} {d:D} {l:List α} (h:GL sz enc S d l) (g:∀k n,d=.os k 0 n false→∀o,S[k]? =some o→T[k]? =some o):GL sz enc T d l:=by
 rcases h with h | ⟨k,h1,h2⟩
 ·exact .inl h
 ·exact .inr ⟨k,h1,g k _ h1 _ h2⟩
set_option maxHeartbeats 1000000 in
theorem two_app {T:List Ob} {d6 d7:D} {cs:List ByteArray} {ns:List Int} {z:Nat} {r0:List (List D)} (h2:T[2]? =some (.row z r0)) (hz:z≠1) (h6:GL 1 Cnd.encT T d6 cs) (h7:GL 1 encZ T d7 ns) (ha:Apart d6 d7) (l6:cs.length≤1000) (l7:ns.length≤1000) (c:ByteArray) (v:Int):
  ∃S1 S2,dAppend Tryz.prog T 67 67 d6 (.sl 1 [[.str c]] true)=some (.os T.length 0 (cs.length+1) false,S1)∧dAppend Tryz.prog S1 70 70 d7 (.sl 1 [[.int .i64 v]] true)=some (.os S1.length 0 (ns.length+1) false,S2)∧S1.length=T.length+1∧S2.length=T.length+2∧(∀(k sz:Nat) (es:List (List D)),sz≠1→T[k]? =some (.row sz es)→S1[k]? =some (.row sz es)∧S2[k]? =some (.row sz es))∧∀r,GL 1 Cnd.encT (S2.set 2 r) (.os T.length 0 (cs.length+1) false) (cs++[c])∧GL 1 encZ (S2.set 2 r) (.os S1.length 0 (ns.length+1) false) (ns++[v]):=by
 obtain⟨S1,a1,a2,a3,a4,a5⟩:=app_gl (t:=67) (e:=9) (z:=.str (ByteArray.mk #[])) (n:=0) (by kernel_rfl) (by kernel_rfl) (by kernel_rfl) rfl (Nat.le_of_ble_eq_true (by kernel_rfl)) h6 (by omega) c
 have h7':GL 1 encZ S1 d7 ns:=h7.keep fun k n hk o ho=>a4 k o (fun n' h=>ha k n' k n h hk rfl) ho
 obtain⟨S2,b1,b2,b3,b4,b5⟩:=app_gl (t:=70) (e:=3) (z:=.int .i64 0) (n:=0) (by kernel_rfl) (by kernel_rfl) (by kernel_rfl) rfl (Nat.le_of_ble_eq_true (by kernel_rfl)) h7' (by omega) v
 have hlt:2<T.length:=(List.getElem?_eq_some_iff.1 h2).1
 refine⟨S1,S2,a1,b1,a3,by omega,fun k sz es hs hk=>⟨a5 k sz es hs hk,b5 k sz es hs (a5 k sz es hs hk)⟩,fun r=>⟨?_,?_⟩⟩
 ·refine a2.keep fun k n hk o ho=>?_
  obtain⟨rfl,-⟩:=D.os.inj hk
  rw[List.getElem?_set_ne (by omega)]
  refine b4 _ _ (fun n' h=>?_) ho
  subst h
  rcases h7 with ⟨h,-⟩ | ⟨k,h,hk⟩
  ·cases h
  ·obtain⟨rfl,-⟩:=D.os.inj h
   have:=(List.getElem?_eq_some_iff.1 hk).1
   omega
 ·refine b2.keep fun k n hk o ho=>?_
  obtain⟨rfl,-⟩:=D.os.inj hk
  rw[List.getElem?_set_ne (by omega)]
  exact ho
section
variable {n : Nat}
set_option maxHeartbeats 2000000 in
theorem split03_x (hn:1≤n) (x:Int):∀st S,callD E (dcall E n) st S 139 [.int .i64 x]=some (.tup [.int .i64 (dayF x),.int .i64 (mntF x)],S):=by
 obtain⟨m,rfl⟩:∃m,n=m+1:=⟨n-1,by omega⟩
 have:WO (dcall E (m+1) 139 [.int .i64 x] []) fun r T=>r=.tup [.int .i64 (dayF x),.int .i64 (mntF x)]:=by
  unfold dayF mntF
  refine wo_dcall Tryz.func139 rfl (by decide) rfl 18 rfl (fun a hal ha=>?_)
  have h0:a[0]? =some (.int .i64 x):=ha 0 (by simp)
  clear ha
  by_cases c1:x.tmod 1440<0
  ·simp(maxSteps:=1000000)(disch:=omega)only[push_cast,decide_not,decide_eq_true_eq,decide_eq_false_iff_not,bne_eq_false_iff_eq,beq_eq_false_iff_ne,gt_iff_lt,ne_eq,not_true_eq_false,not_false_eq_true,hal,h0,c1,Tryz.f139,↓WX,simprocAttr]
  ·simp(maxSteps:=1000000)(disch:=omega)only[push_cast,decide_not,decide_eq_true_eq,decide_eq_false_iff_not,bne_eq_false_iff_eq,beq_eq_false_iff_ne,gt_iff_lt,ne_eq,not_true_eq_false,not_false_eq_true,hal,h0,c1,Tryz.f139,↓WX,simprocAttr]
 obtain⟨_,T,ho,rfl⟩:=this
 exact fun st S=>callD_pure rfl rfl ho rfl
set_option maxHeartbeats 8000000 in
set_option maxRecDepth 100000 in
theorem offset05_x (hn:1048580≤n) (z:Int) {sd:D} {l:List Shf} (hs:FLs 2 Shf.enc sd l) (hl:l.length≤1048576) (u:Int):∀st S,callD E (dcall E n) st S 191 [.agg [.int .i64 z,sd],.int .i64 u]=some (.int .i64 (ofsF u z l),S):=by
 obtain⟨m,rfl⟩:∃m,n=m+1:=⟨n-1,by omega⟩
 have hp:=fls_pure hs (Shfs_pure l)
 have ho:=fls_one hs
 simp only[D.one]at ho
 have hy:=fun S=>fls_len (S:=S) Tryz.underlying55 hs
 simp only[push_cast]at hy
 have:WO (dcall E (m+1) 191 [.agg [.int .i64 z,sd],.int .i64 u] []) fun r T=>r=.int .i64 (ofsF u z l):=by
  refine wo_dcall Tryz.func191 rfl (by decide) rfl 31 rfl (fun a hal ha=>?_)
  have h0:a[0]? =some (.agg [.int .i64 z,sd]):=ha 0 (by simp)
  have h1:a[1]? =some (.int .i64 u):=ha 1 (by simp)
  clear ha
  simp(maxSteps:=1000000)(disch:=omega)only[push_cast,decide_not,decide_eq_true_eq,decide_eq_false_iff_not,bne_eq_false_iff_eq,beq_eq_false_iff_ne,gt_iff_lt,ne_eq,not_true_eq_false,not_false_eq_true,hal,h0,h1,ho,↓WX,simprocAttr]
  refine wl_loop (fun i a T=>(T=[Ob.row 2 [[.int .i64 z,sd]]]∧∃q:Int,a[5]? =some (.int .i64 q)∧ofsF u z l=ofsF u q (l.drop i))∧a.length=31∧a[1]? =some (.int .i64 u)∧a[2]? =some (.loc 0 0 0)∧a[6]? =some (.int .i64 i)) l.length ?_ (by omega) ?_
  ·simp(maxSteps:=1000000)(disch:=omega)only[push_cast,decide_not,decide_eq_true_eq,decide_eq_false_iff_not,bne_eq_false_iff_eq,beq_eq_false_iff_ne,gt_iff_lt,ne_eq,not_true_eq_false,not_false_eq_true,hal,h0,h1,ho,Int.natCast_zero,↓WX,simprocAttr]
   exact⟨_,rfl,rfl⟩
  clear hal h0 h1 a
  rintro i a T hi ⟨⟨rfl,q,h5,e⟩,hal,h1,h2,h6⟩
  rcases Nat.lt_or_eq_of_le hi with hlt |rfl
  case inr=>
   rw[List.drop_length,ofsF]at e
   rw[e]
   simp(maxSteps:=1000000)(disch:=omega)only[push_cast,decide_not,decide_eq_true_eq,decide_eq_false_iff_not,bne_eq_false_iff_eq,beq_eq_false_iff_ne,gt_iff_lt,ne_eq,not_true_eq_false,not_false_eq_true,hal,h1,h2,h5,h6,ho,hy,Int.lt_irrefl,Tryz.f191,↓WX,simprocAttr]
  have hltc:(i:Int)<l.length:=by omega
  obtain⟨x,hx⟩:∃x,l[i]? =some x:=⟨l[i],by simp⟩
  rw[drop_at hx,ofsF]at e
  rcases hs with ⟨-,rfl⟩ | ⟨lx,rfl⟩
  ·cases hx
  by_cases c:x.tm≤u
  ·rw[if_pos c]at e
   simp(maxSteps:=1000000)(disch:=omega)only[push_cast,decide_not,decide_eq_true_eq,decide_eq_false_iff_not,bne_eq_false_iff_eq,beq_eq_false_iff_ne,gt_iff_lt,ne_eq,not_true_eq_false,not_false_eq_true,hal,h1,h2,h5,h6,hltc,hlt,hx,c,Shf.enc,wrap_ok,Int.natCast_add,Int.natCast_one,↓WX,simprocAttr]
   exact⟨_,rfl,e⟩
  ·rw[if_neg c]at e
   simp(maxSteps:=1000000)(disch:=omega)only[push_cast,decide_not,decide_eq_true_eq,decide_eq_false_iff_not,bne_eq_false_iff_eq,beq_eq_false_iff_ne,gt_iff_lt,ne_eq,not_true_eq_false,not_false_eq_true,hal,h1,h2,h5,h6,hltc,hlt,hx,c,Shf.enc,wrap_ok,Int.natCast_add,Int.natCast_one,↓WX,simprocAttr]
   exact⟨_,rfl,e⟩
 obtain⟨_,T,ho,rfl⟩:=this
 exact fun st S=>callD_pure rfl (by simp only[pureL_cons,pureL_nil,D.pure,hp,Bool.and_true]) ho rfl
set_option maxHeartbeats 2000000 in
theorem local05_x (hn:1048581≤n) (z:Int) {sd:D} {l:List Shf} (hs:FLs 2 Shf.enc sd l) (hl:l.length≤1048576) (u:Int):∀st S,callD E (dcall E n) st S 140 [.agg [.int .i64 z,sd],.int .i64 u]=some (.int .i64 (IntKind.i64.wrap (u+ofsF u z l)),S):=by
 obtain⟨m,rfl⟩:∃m,n=m+1:=⟨n-1,by omega⟩
 have hq:=offset05_x (n:=m) (by omega) z hs hl u
 have hp:=fls_pure hs (Shfs_pure l)
 have ho:=fls_one hs
 simp only[D.one]at ho
 have:WO (dcall E (m+1) 140 [.agg [.int .i64 z,sd],.int .i64 u] []) fun r T=>r=.int .i64 (IntKind.i64.wrap (u+ofsF u z l)):=by
  refine wo_dcall Tryz.func140 rfl (by decide) rfl 10 rfl (fun a hal ha=>?_)
  have h0:a[0]? =some (.agg [.int .i64 z,sd]):=ha 0 (by simp)
  have h1:a[1]? =some (.int .i64 u):=ha 1 (by simp)
  clear ha
  simp(maxSteps:=1000000)(disch:=omega)only[push_cast,decide_not,decide_eq_true_eq,decide_eq_false_iff_not,bne_eq_false_iff_eq,beq_eq_false_iff_ne,gt_iff_lt,ne_eq,not_true_eq_false,not_false_eq_true,hal,h0,h1,ho,hq,Tryz.f140,↓WX,simprocAttr]
 obtain⟨_,T,ho,rfl⟩:=this
 exact fun st S=>callD_pure rfl (by simp only[pureL_cons,pureL_nil,D.pure,hp,Bool.and_true]) ho rfl
end
end Go.Proofs.YtaklebjoenophaaGreat.Dm
