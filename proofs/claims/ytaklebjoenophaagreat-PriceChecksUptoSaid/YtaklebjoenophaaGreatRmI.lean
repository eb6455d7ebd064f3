/-
  The data of a journey and of a price as plain data, with their bulk; the walk of PriceChecks.
-/
import Derived.Test.YtaklebjoenophaaGreatCfG
import Derived.Test.YtaklebjoenophaaGreatRmG
set_option maxHeartbeats 64000000
set_option maxRecDepth 100000
set_option linter.unusedSimpArgs false
set_option linter.unusedVariables false
namespace Go.Proofs.YtaklebjoenophaaGreat
open Go Go.ChangeShapes Go.WideShapes Go.ChangeAt Go.RowKit Dm
theorem slices_relN {α:Type} {enc:α->List D} {Q:α->Prop} {t e:TypeId} {n:Nat} (ht:Tryz.prog.underlying t=some (.slice e)) (hn:Tryz.prog.cellsOf e=n) {d:D} (hof:∀c,Yn c<Zy d->TC Tryz.prog e c->∃r:α,CellR c (enc r)/\Q r/\Yn (enc r)<=Yn c) (h:TC Tryz.prog t [d]):
  ∃(l:List α) (x:Bool),(∀r∈l,Q r)/\(∀W C u,VR W C d u->VR W C (.sl n (l.map enc) x) u)/\Jj (l.map enc)+1<=Zy d:=by
 rcases h.toSlice ht with h | ⟨es,x,h,hle,hes⟩
 ·have:d=.nils:=by simpa using h
  subst this
  exact⟨[],true,(λr h=>by cases h),λW C u hu=>nils_sl hu,Uk _⟩
 ·rw[hn]at h
  have:d=.sl n es x:=by simpa using h
  subst this
  obtain⟨l,hl,hr⟩:=list_relB (R:=λc r=>CellR c (enc r)/\Q r/\Yn (enc r)<=Yn c) λj c hc=>hof c (by have:=bulk_mem (Kx hc);simp only[Zy];omega) (hes j c hc)
  refine⟨l,x,λr hm=>?_,λW C u hu=>VR.sl_rel hu (by rw[Uq];exact hl) λj e e' he he'=>?_,?_⟩
  ·obtain⟨j,hj⟩:=Vv.1 hm
   have hjl:j<es.length:=by rw[<-hl];exact (Kr.1 hj).1
   exact (hr j es[j] r (Uh hjl) hj).2.1
  ·rw[Vd]at he'
   obtain⟨r,hr',rfl⟩:=Ks.1 he'
   exact (hr j e r he hr').1
  ·have:=bulk_map (enc:=enc) hl (λj c r h1 h2=>(hr j c r h1 h2).2.2)
   simp only[Zy];omega
theorem Zd:Tryz.prog.cellsOf 4=1:=by kernel_rfl
theorem Xd:Tryz.prog.cellsOf 202=2:=by kernel_rfl
theorem Xb:Tryz.prog.cellsOf 57=2:=by kernel_rfl
theorem Xe:Tryz.prog.cellsOf 59=5:=by kernel_rfl
theorem Xf:Tryz.prog.cellsOf 61=3:=by kernel_rfl
theorem Xu:Tryz.prog.cellsOf 25=2:=by kernel_rfl
theorem Xv:Tryz.prog.cellsOf 66=3:=by kernel_rfl
theorem Xg:Tryz.prog.cellsOf 63=9:=by kernel_rfl
theorem Xh:Tryz.prog.cellsOf 190=2:=by kernel_rfl
theorem Xi:Tryz.prog.cellsOf 175=2:=by kernel_rfl
theorem Xj:Tryz.prog.cellsOf 118=3:=by kernel_rfl
theorem Jb:Tryz.prog.cellsOf 121=7:=by kernel_rfl
theorem Zz:Tryz.prog.cellsOf 69=8:=by kernel_rfl
theorem Xk:Tryz.prog.cellsOf 73=15:=by kernel_rfl
theorem Xw:Tryz.prog.cellsOf 31=4:=by kernel_rfl
theorem Xl:Tryz.prog.cellsOf 79=4:=by kernel_rfl
theorem Xm:Tryz.prog.cellsOf 91=2:=by kernel_rfl
theorem Xn:Tryz.prog.cellsOf 93=2:=by kernel_rfl
theorem Xs:Tryz.prog.cellsOf 41=5:=by kernel_rfl
theorem Xx:Tryz.prog.cellsOf 75=7:=by kernel_rfl
theorem Xo:Tryz.prog.cellsOf 77=8:=by kernel_rfl
theorem Xt:Tryz.prog.cellsOf 34=9:=by kernel_rfl
theorem Ze:Tryz.prog.cellsOf 55=1:=by kernel_rfl
theorem Zf:Tryz.prog.cellsOf 22=1:=by kernel_rfl
theorem Zg:Tryz.prog.cellsOf 23=1:=by kernel_rfl
theorem Zh:Tryz.prog.cellsOf 26=1:=by kernel_rfl
theorem Zi:Tryz.prog.cellsOf 71=1:=by kernel_rfl
theorem Zj:Tryz.prog.cellsOf 116=1:=by kernel_rfl
theorem Zk:Tryz.prog.cellsOf 28=1:=by kernel_rfl
theorem Xc:Tryz.prog.cellsOf 29=1:=by kernel_rfl
theorem Zl:Tryz.prog.cellsOf 64=1:=by kernel_rfl
theorem Zm:Tryz.prog.cellsOf 27=1:=by kernel_rfl
theorem Zn:Tryz.prog.cellsOf 67=1:=by kernel_rfl
theorem Zo:Tryz.prog.cellsOf 70=1:=by kernel_rfl
theorem Zp:Tryz.prog.cellsOf 37=1:=by kernel_rfl
theorem Zq:Tryz.prog.cellsOf 38=1:=by kernel_rfl
theorem Zr:Tryz.prog.cellsOf 39=1:=by kernel_rfl
theorem Zs:Tryz.prog.cellsOf 32=1:=by kernel_rfl
theorem Str_ofB {c:List D} (h:TC Tryz.prog 9 c):∃r:ByteArray,CellR c (Cnd.encT r)/\True/\Yn (Cnd.encT r)<=Yn c:=by
 obtain⟨s,rfl,z⟩:=h.toStr Tryz.underlying9
 exact⟨s,CellR.refl (λd hd=>by
   obtain rfl:d=.str s:=by simpa using hd
   rfl),trivial,Uk _⟩
theorem Int_ofB {c:List D} (h:TC Tryz.prog 3 c):∃r:Int,CellR c (encZ r)/\True/\Yn (encZ r)<=Yn c:=by
 obtain⟨s,rfl,z⟩:=h.toInt Tryz.underlying3
 exact⟨s,CellR.refl (λd hd=>by
   obtain rfl:d=.int .i64 s:=by simpa using hd
   rfl),trivial,Uk _⟩
theorem Shf_ofB {c:List D} (h:TC Tryz.prog 202 c):∃r:Shf,CellR c (Shf.enc r)/\(True)/\Yn (Shf.enc r)<=Yn c:=by
 obtain⟨hl,hf⟩:=h.toStruct Tryz.underlying202
 rw[Xd]at hl
 obtain⟨a0,a1,rfl⟩:∃a0 a1,c=[a0,a1]:=by
  clear hf h
  match c,hl with
  | [a0,a1],_=>exact⟨a0,a1,rfl⟩
 simp only[List.mem_cons,List.not_mem_nil,forall_eq_or_imp,forall_eq,Zt,Zu,Zd,Xd,Xb,Xe,Xf,Xu,Xv,Xg,Xh,Xi,Xj,Jb,Zz,Xk,Xw,Xl,Xm,Xn,Xs,Xx,Xo,Xt,Ze,Zf,Zg,Zh,Zi,Zj,Zk,Xc,Zl,Zm,Zn,Zo,Zp,Zq,Zr,Zs,List.drop_succ_cons,List.drop_zero,List.take_succ_cons,List.take_zero,WY]at hf
 obtain⟨h0_0,h0_1⟩:=hf
 obtain⟨s0,e0,z0⟩:=h0_0.toInt Tryz.underlying3
 obtain⟨s1,e1,z1⟩:=h0_1.toInt Tryz.underlying3
 simp only[List.cons.injEq,WY]at e0 e1
 subst e0 e1
 refine⟨⟨s0,s1⟩,?_,trivial,?_⟩
 ·refine⟨rfl,λj c c' hc hc'=>?_⟩
  match j,hc,hc' with
  |0,hc,hc'=>cases hc;cases hc';exact⟨rfl,λ_ _ _ h=>h⟩
  |1,hc,hc'=>cases hc;cases hc';exact⟨rfl,λ_ _ _ h=>h⟩
  |j+2,hc,hc'=>simp at hc
 ·simp only[Shf.enc,Yn,Zy];omega
theorem Apt_ofB {c:List D} (h:TC Tryz.prog 59 c):∃r:Apt,CellR c (Apt.enc r)/\(True)/\Yn (Apt.enc r)<=Yn c:=by
 obtain⟨hl,hf⟩:=h.toStruct Tryz.underlying59
 rw[Xe]at hl
 obtain⟨a0,a1,a2,a3,a4,rfl⟩:∃a0 a1 a2 a3 a4,c=[a0,a1,a2,a3,a4]:=by
  clear hf h
  match c,hl with
  | [a0,a1,a2,a3,a4],_=>exact⟨a0,a1,a2,a3,a4,rfl⟩
 simp only[List.mem_cons,List.not_mem_nil,forall_eq_or_imp,forall_eq,Zt,Zu,Zd,Xd,Xb,Xe,Xf,Xu,Xv,Xg,Xh,Xi,Xj,Jb,Zz,Xk,Xw,Xl,Xm,Xn,Xs,Xx,Xo,Xt,Ze,Zf,Zg,Zh,Zi,Zj,Zk,Xc,Zl,Zm,Zn,Zo,Zp,Zq,Zr,Zs,List.drop_succ_cons,List.drop_zero,List.take_succ_cons,List.take_zero,WY]at hf
 obtain⟨h0_0,h0_1,h0_2,h0_3⟩:=hf
 obtain⟨s0,e0,z0⟩:=h0_0.toStr Tryz.underlying9
 obtain⟨s1,e1,z1⟩:=h0_1.toStr Tryz.underlying9
 obtain⟨s2,e2,z2⟩:=h0_2.toStr Tryz.underlying9
 obtain⟨-,g1⟩:=h0_3.toStruct Tryz.underlying57
 simp only[List.mem_cons,List.not_mem_nil,forall_eq_or_imp,forall_eq,Zt,Zu,Zd,Xd,Xb,Xe,Xf,Xu,Xv,Xg,Xh,Xi,Xj,Jb,Zz,Xk,Xw,Xl,Xm,Xn,Xs,Xx,Xo,Xt,Ze,Zf,Zg,Zh,Zi,Zj,Zk,Xc,Zl,Zm,Zn,Zo,Zp,Zq,Zr,Zs,List.drop_succ_cons,List.drop_zero,List.take_succ_cons,List.take_zero,WY]at g1
 obtain⟨h1_0,h1_1⟩:=g1
 obtain⟨s3,e3,z3⟩:=h1_0.toInt Tryz.underlying3
 obtain⟨l4,x4,z4,v4,b4⟩:=Jh (enc:=Shf.enc) (n:=2) Tryz.underlying55 Xd (λc h=>Shf_ofB h) h1_1
 simp only[List.cons.injEq,WY]at e0 e1 e2 e3
 subst e0 e1 e2 e3
 refine⟨⟨s0,s1,s2,s3,l4,x4⟩,?_,trivial,?_⟩
 ·refine⟨rfl,λj c c' hc hc'=>?_⟩
  match j,hc,hc' with
  |0,hc,hc'=>cases hc;cases hc';exact⟨rfl,λ_ _ _ h=>h⟩
  |1,hc,hc'=>cases hc;cases hc';exact⟨rfl,λ_ _ _ h=>h⟩
  |2,hc,hc'=>cases hc;cases hc';exact⟨rfl,λ_ _ _ h=>h⟩
  |3,hc,hc'=>cases hc;cases hc';exact⟨rfl,λ_ _ _ h=>h⟩
  |4,hc,hc'=>cases hc;cases hc';exact⟨rfl,v4⟩
  |j+5,hc,hc'=>simp at hc
 ·simp only[Apt.enc,Yn,Zy];omega
theorem Dst_ofB {c:List D} (h:TC Tryz.prog 61 c):∃r:Dst,CellR c (Dst.enc r)/\(True)/\Yn (Dst.enc r)<=Yn c:=by
 obtain⟨hl,hf⟩:=h.toStruct Tryz.underlying61
 rw[Xf]at hl
 obtain⟨a0,a1,a2,rfl⟩:∃a0 a1 a2,c=[a0,a1,a2]:=by
  clear hf h
  match c,hl with
  | [a0,a1,a2],_=>exact⟨a0,a1,a2,rfl⟩
 simp only[List.mem_cons,List.not_mem_nil,forall_eq_or_imp,forall_eq,Zt,Zu,Zd,Xd,Xb,Xe,Xf,Xu,Xv,Xg,Xh,Xi,Xj,Jb,Zz,Xk,Xw,Xl,Xm,Xn,Xs,Xx,Xo,Xt,Ze,Zf,Zg,Zh,Zi,Zj,Zk,Xc,Zl,Zm,Zn,Zo,Zp,Zq,Zr,Zs,List.drop_succ_cons,List.drop_zero,List.take_succ_cons,List.take_zero,WY]at hf
 obtain⟨h0_0,h0_1,h0_2⟩:=hf
 obtain⟨s0,e0,z0⟩:=h0_0.toStr Tryz.underlying9
 obtain⟨s1,e1,z1⟩:=h0_1.toStr Tryz.underlying9
 obtain⟨s2,e2,z2⟩:=h0_2.toInt Tryz.underlying3
 simp only[List.cons.injEq,WY]at e0 e1 e2
 subst e0 e1 e2
 refine⟨⟨s0,s1,s2⟩,?_,trivial,?_⟩
 ·refine⟨rfl,λj c c' hc hc'=>?_⟩
  match j,hc,hc' with
  |0,hc,hc'=>cases hc;cases hc';exact⟨rfl,λ_ _ _ h=>h⟩
  |1,hc,hc'=>cases hc;cases hc';exact⟨rfl,λ_ _ _ h=>h⟩
  |2,hc,hc'=>cases hc;cases hc';exact⟨rfl,λ_ _ _ h=>h⟩
  |j+3,hc,hc'=>simp at hc
 ·simp only[Dst.enc,Yn,Zy];omega
theorem Far_ofB {c:List D} (h:TC Tryz.prog 63 c):∃r:Far,CellR c (Far.enc r)/\(True)/\Yn (Far.enc r)<=Yn c:=by
 obtain⟨hl,hf⟩:=h.toStruct Tryz.underlying63
 rw[Xg]at hl
 obtain⟨a0,a1,a2,a3,a4,a5,a6,a7,a8,rfl⟩:∃a0 a1 a2 a3 a4 a5 a6 a7 a8,c=[a0,a1,a2,a3,a4,a5,a6,a7,a8]:=by
  clear hf h
  match c,hl with
  | [a0,a1,a2,a3,a4,a5,a6,a7,a8],_=>exact⟨a0,a1,a2,a3,a4,a5,a6,a7,a8,rfl⟩
 simp only[List.mem_cons,List.not_mem_nil,forall_eq_or_imp,forall_eq,Zt,Zu,Zd,Xd,Xb,Xe,Xf,Xu,Xv,Xg,Xh,Xi,Xj,Jb,Zz,Xk,Xw,Xl,Xm,Xn,Xs,Xx,Xo,Xt,Ze,Zf,Zg,Zh,Zi,Zj,Zk,Xc,Zl,Zm,Zn,Zo,Zp,Zq,Zr,Zs,List.drop_succ_cons,List.drop_zero,List.take_succ_cons,List.take_zero,WY]at hf
 obtain⟨h0_0,h0_1,h0_2,h0_3,h0_4,h0_5,h0_6,h0_7,h0_8⟩:=hf
 obtain⟨s0,e0,z0⟩:=h0_0.toStr Tryz.underlying9
 obtain⟨s1,e1,z1⟩:=h0_1.toStr Tryz.underlying9
 obtain⟨s2,e2,z2⟩:=h0_2.toStr Tryz.underlying9
 obtain⟨s3,e3,z3⟩:=h0_3.toStr Tryz.underlying9
 obtain⟨s4,e4,z4⟩:=h0_4.toStr Tryz.underlying9
 obtain⟨s5,e5⟩:=h0_5.toBool Tryz.underlying4
 obtain⟨s6,e6,z6⟩:=h0_6.toInt Tryz.underlying3
 obtain⟨s7,e7,z7⟩:=h0_7.toInt Tryz.underlying3
 obtain⟨s8,e8,z8⟩:=h0_8.toInt Tryz.underlying3
 simp only[List.cons.injEq,WY]at e0 e1 e2 e3 e4 e5 e6 e7 e8
 subst e0 e1 e2 e3 e4 e5 e6 e7 e8
 refine⟨⟨s0,s1,s2,s3,s4,s5,s6,s7,s8⟩,?_,trivial,?_⟩
 ·refine⟨rfl,λj c c' hc hc'=>?_⟩
  match j,hc,hc' with
  |0,hc,hc'=>cases hc;cases hc';exact⟨rfl,λ_ _ _ h=>h⟩
  |1,hc,hc'=>cases hc;cases hc';exact⟨rfl,λ_ _ _ h=>h⟩
  |2,hc,hc'=>cases hc;cases hc';exact⟨rfl,λ_ _ _ h=>h⟩
  |3,hc,hc'=>cases hc;cases hc';exact⟨rfl,λ_ _ _ h=>h⟩
  |4,hc,hc'=>cases hc;cases hc';exact⟨rfl,λ_ _ _ h=>h⟩
  |5,hc,hc'=>cases hc;cases hc';exact⟨rfl,λ_ _ _ h=>h⟩
  |6,hc,hc'=>cases hc;cases hc';exact⟨rfl,λ_ _ _ h=>h⟩
  |7,hc,hc'=>cases hc;cases hc';exact⟨rfl,λ_ _ _ h=>h⟩
  |8,hc,hc'=>cases hc;cases hc';exact⟨rfl,λ_ _ _ h=>h⟩
  |j+9,hc,hc'=>simp at hc
 ·simp only[Far.enc,Yn,Zy];omega
theorem Pct_ofB {c:List D} (h:TC Tryz.prog 190 c):∃r:ByteArray×Int,CellR c (encPc r)/\(True)/\Yn (encPc r)<=Yn c:=by
 obtain⟨hl,hf⟩:=h.toStruct Tryz.underlying190
 rw[Xh]at hl
 obtain⟨a0,a1,rfl⟩:∃a0 a1,c=[a0,a1]:=by
  clear hf h
  match c,hl with
  | [a0,a1],_=>exact⟨a0,a1,rfl⟩
 simp only[List.mem_cons,List.not_mem_nil,forall_eq_or_imp,forall_eq,Zt,Zu,Zd,Xd,Xb,Xe,Xf,Xu,Xv,Xg,Xh,Xi,Xj,Jb,Zz,Xk,Xw,Xl,Xm,Xn,Xs,Xx,Xo,Xt,Ze,Zf,Zg,Zh,Zi,Zj,Zk,Xc,Zl,Zm,Zn,Zo,Zp,Zq,Zr,Zs,List.drop_succ_cons,List.drop_zero,List.take_succ_cons,List.take_zero,WY]at hf
 obtain⟨h0_0,h0_1⟩:=hf
 obtain⟨s0,e0,z0⟩:=h0_0.toStr Tryz.underlying9
 obtain⟨s1,e1,z1⟩:=h0_1.toInt Tryz.underlying3
 simp only[List.cons.injEq,WY]at e0 e1
 subst e0 e1
 refine⟨⟨s0,s1⟩,?_,trivial,?_⟩
 ·refine⟨rfl,λj c c' hc hc'=>?_⟩
  match j,hc,hc' with
  |0,hc,hc'=>cases hc;cases hc';exact⟨rfl,λ_ _ _ h=>h⟩
  |1,hc,hc'=>cases hc;cases hc';exact⟨rfl,λ_ _ _ h=>h⟩
  |j+2,hc,hc'=>simp at hc
 ·simp only[encPc,Yn,Zy];omega
theorem Lnk_ofB {c:List D} (h:TC Tryz.prog 175 c):∃r:ByteArray×ByteArray,CellR c (encLk r)/\(True)/\Yn (encLk r)<=Yn c:=by
 obtain⟨hl,hf⟩:=h.toStruct Tryz.underlying175
 rw[Xi]at hl
 obtain⟨a0,a1,rfl⟩:∃a0 a1,c=[a0,a1]:=by
  clear hf h
  match c,hl with
  | [a0,a1],_=>exact⟨a0,a1,rfl⟩
 simp only[List.mem_cons,List.not_mem_nil,forall_eq_or_imp,forall_eq,Zt,Zu,Zd,Xd,Xb,Xe,Xf,Xu,Xv,Xg,Xh,Xi,Xj,Jb,Zz,Xk,Xw,Xl,Xm,Xn,Xs,Xx,Xo,Xt,Ze,Zf,Zg,Zh,Zi,Zj,Zk,Xc,Zl,Zm,Zn,Zo,Zp,Zq,Zr,Zs,List.drop_succ_cons,List.drop_zero,List.take_succ_cons,List.take_zero,WY]at hf
 obtain⟨h0_0,h0_1⟩:=hf
 obtain⟨s0,e0,z0⟩:=h0_0.toStr Tryz.underlying9
 obtain⟨s1,e1,z1⟩:=h0_1.toStr Tryz.underlying9
 simp only[List.cons.injEq,WY]at e0 e1
 subst e0 e1
 refine⟨⟨s0,s1⟩,?_,trivial,?_⟩
 ·refine⟨rfl,λj c c' hc hc'=>?_⟩
  match j,hc,hc' with
  |0,hc,hc'=>cases hc;cases hc';exact⟨rfl,λ_ _ _ h=>h⟩
  |1,hc,hc'=>cases hc;cases hc';exact⟨rfl,λ_ _ _ h=>h⟩
  |j+2,hc,hc'=>simp at hc
 ·simp only[encLk,Yn,Zy];omega
theorem Rou_ofB {c:List D} (h:TC Tryz.prog 118 c):∃r:Rou,CellR c (Rou.enc r)/\(True)/\Yn (Rou.enc r)<=Yn c:=by
 obtain⟨hl,hf⟩:=h.toStruct Tryz.underlying118
 rw[Xj]at hl
 obtain⟨a0,a1,a2,rfl⟩:∃a0 a1 a2,c=[a0,a1,a2]:=by
  clear hf h
  match c,hl with
  | [a0,a1,a2],_=>exact⟨a0,a1,a2,rfl⟩
 simp only[List.mem_cons,List.not_mem_nil,forall_eq_or_imp,forall_eq,Zt,Zu,Zd,Xd,Xb,Xe,Xf,Xu,Xv,Xg,Xh,Xi,Xj,Jb,Zz,Xk,Xw,Xl,Xm,Xn,Xs,Xx,Xo,Xt,Ze,Zf,Zg,Zh,Zi,Zj,Zk,Xc,Zl,Zm,Zn,Zo,Zp,Zq,Zr,Zs,List.drop_succ_cons,List.drop_zero,List.take_succ_cons,List.take_zero,WY]at hf
 obtain⟨h0_0,h0_1,h0_2⟩:=hf
 obtain⟨s0,e0,z0⟩:=h0_0.toInt Tryz.underlying3
 obtain⟨l1,x1,z1,v1,b1⟩:=Jh (enc:=encLk) (n:=2) Tryz.underlying116 Xi (λc h=>Lnk_ofB h) h0_1
 obtain⟨s2,e2,z2⟩:=h0_2.toInt Tryz.underlying3
 simp only[List.cons.injEq,WY]at e0 e2
 subst e0 e2
 refine⟨⟨s0,l1,x1,s2⟩,?_,trivial,?_⟩
 ·refine⟨rfl,λj c c' hc hc'=>?_⟩
  match j,hc,hc' with
  |0,hc,hc'=>cases hc;cases hc';exact⟨rfl,λ_ _ _ h=>h⟩
  |1,hc,hc'=>cases hc;cases hc';exact⟨rfl,v1⟩
  |2,hc,hc'=>cases hc;cases hc';exact⟨rfl,λ_ _ _ h=>h⟩
  |j+3,hc,hc'=>simp at hc
 ·simp only[Rou.enc,Yn,Zy];omega
theorem Tx_ofB {c:List D} (h:TC Tryz.prog 121 c):∃r:Tx,CellR c (Tx.enc r)/\(True)/\Yn (Tx.enc r)<=Yn c:=by
 obtain⟨hl,hf⟩:=h.toStruct Tryz.underlying121
 rw[Jb]at hl
 obtain⟨a0,a1,a2,a3,a4,a5,a6,rfl⟩:∃a0 a1 a2 a3 a4 a5 a6,c=[a0,a1,a2,a3,a4,a5,a6]:=by
  clear hf h
  match c,hl with
  | [a0,a1,a2,a3,a4,a5,a6],_=>exact⟨a0,a1,a2,a3,a4,a5,a6,rfl⟩
 simp only[List.mem_cons,List.not_mem_nil,forall_eq_or_imp,forall_eq,Zt,Zu,Zd,Xd,Xb,Xe,Xf,Xu,Xv,Xg,Xh,Xi,Xj,Jb,Zz,Xk,Xw,Xl,Xm,Xn,Xs,Xx,Xo,Xt,Ze,Zf,Zg,Zh,Zi,Zj,Zk,Xc,Zl,Zm,Zn,Zo,Zp,Zq,Zr,Zs,List.drop_succ_cons,List.drop_zero,List.take_succ_cons,List.take_zero,WY]at hf
 obtain⟨h0_0,h0_1,h0_2,h0_3,h0_4,h0_5,h0_6⟩:=hf
 obtain⟨s0,e0,z0⟩:=h0_0.toStr Tryz.underlying9
 obtain⟨s1,e1,z1⟩:=h0_1.toInt Tryz.underlying3
 obtain⟨s2,e2,z2⟩:=h0_2.toStr Tryz.underlying9
 obtain⟨s3,e3,z3⟩:=h0_3.toInt Tryz.underlying3
 obtain⟨s4,e4,z4⟩:=h0_4.toInt Tryz.underlying3
 obtain⟨s5,e5,z5⟩:=h0_5.toInt Tryz.underlying3
 obtain⟨l6,x6,z6,v6,b6⟩:=Jh (enc:=Cnd.encT) (n:=1) Tryz.underlying67 Zu (λc h=>Str_ofB h) h0_6
 simp only[List.cons.injEq,WY]at e0 e1 e2 e3 e4 e5
 subst e0 e1 e2 e3 e4 e5
 refine⟨⟨s0,s1,s2,s3,s4,s5,l6,x6⟩,?_,trivial,?_⟩
 ·refine⟨rfl,λj c c' hc hc'=>?_⟩
  match j,hc,hc' with
  |0,hc,hc'=>cases hc;cases hc';exact⟨rfl,λ_ _ _ h=>h⟩
  |1,hc,hc'=>cases hc;cases hc';exact⟨rfl,λ_ _ _ h=>h⟩
  |2,hc,hc'=>cases hc;cases hc';exact⟨rfl,λ_ _ _ h=>h⟩
  |3,hc,hc'=>cases hc;cases hc';exact⟨rfl,λ_ _ _ h=>h⟩
  |4,hc,hc'=>cases hc;cases hc';exact⟨rfl,λ_ _ _ h=>h⟩
  |5,hc,hc'=>cases hc;cases hc';exact⟨rfl,λ_ _ _ h=>h⟩
  |6,hc,hc'=>cases hc;cases hc';exact⟨rfl,v6⟩
  |j+7,hc,hc'=>simp at hc
 ·simp only[Tx.enc,Yn,Zy];omega
theorem Wfs_of:∀ {l:List Cnd},(∀c∈l,c.Wf)->Cnd.Wfs l
 | [],_=>by rw[Cnd.Wfs];trivial
 |x::l,h=>by
  rw[Cnd.Wfs]
  exact⟨h x (by simp),Wfs_of λc hc=>h c (by simp[hc])⟩
theorem Cnd_ofB:∀(N:Nat) {c:List D},Yn c<=N->TC Tryz.prog 69 c->∃r:Cnd,CellR c r.enc/\r.Wf/\Yn r.enc<=Yn c:=by
 intro N
 induction N with
 |zero=>
  intro c hN h
  obtain⟨hl,hf⟩:=h.toStruct Tryz.underlying69
  rw[Zz]at hl
  obtain⟨a0,a1,a2,a3,a4,a5,a6,a7,rfl⟩:∃a0 a1 a2 a3 a4 a5 a6 a7,c=[a0,a1,a2,a3,a4,a5,a6,a7]:=by
   clear hf h hN
   match c,hl with
   | [a0,a1,a2,a3,a4,a5,a6,a7],_=>exact⟨a0,a1,a2,a3,a4,a5,a6,a7,rfl⟩
  simp only[List.mem_cons,List.not_mem_nil,forall_eq_or_imp,forall_eq,Zt,Zu,Zd,Xd,Xb,Xe,Xf,Xu,Xv,Xg,Xh,Xi,Xj,Jb,Zz,Xk,Xw,Xl,Xm,Xn,Xs,Xx,Xo,Xt,Ze,Zf,Zg,Zh,Zi,Zj,Zk,Xc,Zl,Zm,Zn,Zo,Zp,Zq,Zr,Zs,List.drop_succ_cons,List.drop_zero,List.take_succ_cons,List.take_zero,WY]at hf
  obtain⟨h0,-⟩:=hf
  obtain⟨s0,e0,z0⟩:=h0.toInt Tryz.underlying3
  simp only[List.cons.injEq,WY]at e0
  subst e0
  simp only[Yn,Zy]at hN
  omega
 |succ N ih=>
  intro c hN h
  obtain⟨hl,hf⟩:=h.toStruct Tryz.underlying69
  rw[Zz]at hl
  obtain⟨a0,a1,a2,a3,a4,a5,a6,a7,rfl⟩:∃a0 a1 a2 a3 a4 a5 a6 a7,c=[a0,a1,a2,a3,a4,a5,a6,a7]:=by
   clear hf h hN
   match c,hl with
   | [a0,a1,a2,a3,a4,a5,a6,a7],_=>exact⟨a0,a1,a2,a3,a4,a5,a6,a7,rfl⟩
  simp only[List.mem_cons,List.not_mem_nil,forall_eq_or_imp,forall_eq,Zt,Zu,Zd,Xd,Xb,Xe,Xf,Xu,Xv,Xg,Xh,Xi,Xj,Jb,Zz,Xk,Xw,Xl,Xm,Xn,Xs,Xx,Xo,Xt,Ze,Zf,Zg,Zh,Zi,Zj,Zk,Xc,Zl,Zm,Zn,Zo,Zp,Zq,Zr,Zs,List.drop_succ_cons,List.drop_zero,List.take_succ_cons,List.take_zero,WY]at hf
  obtain⟨h0,h1,h2,h3,h4,h7⟩:=hf
  obtain⟨s0,e0,z0⟩:=h0.toInt Tryz.underlying3
  obtain⟨s2,e2,z2⟩:=h2.toInt Tryz.underlying3
  obtain⟨s3,e3,z3⟩:=h3.toInt Tryz.underlying3
  obtain⟨-,g4⟩:=h4.toStruct Tryz.underlying66
  simp only[List.mem_cons,List.not_mem_nil,forall_eq_or_imp,forall_eq,Zt,Zu,Zd,Xd,Xb,Xe,Xf,Xu,Xv,Xg,Xh,Xi,Xj,Jb,Zz,Xk,Xw,Xl,Xm,Xn,Xs,Xx,Xo,Xt,Ze,Zf,Zg,Zh,Zi,Zj,Zk,Xc,Zl,Zm,Zn,Zo,Zp,Zq,Zr,Zs,List.drop_succ_cons,List.drop_zero,List.take_succ_cons,List.take_zero,WY]at g4
  obtain⟨k4,k5,k6⟩:=g4
  obtain⟨s4,e4,z4⟩:=k4.toInt Tryz.underlying3
  obtain⟨s5,e5,z5⟩:=k5.toInt Tryz.underlying3
  obtain⟨s6,e6,z6⟩:=k6.toInt Tryz.underlying3
  obtain⟨l7,x7,z7,v7,b7⟩:=Jh (enc:=Cnd.encT) (n:=1) Tryz.underlying67 Zu (λc h=>Str_ofB h) h7
  simp only[List.cons.injEq,WY]at e0 e2 e3 e4 e5 e6
  subst e0 e2 e3 e4 e5 e6
  simp only[Yn,Zy]at hN
  obtain⟨l1,x1,z1,v1,b1⟩:=slices_relN (enc:=Cnd.enc) (n:=8) Tryz.underlying64 Zz (d:=a1) (λc hc h=>ih (by omega) h) h1
  rw[<-Cnd.encs_map]at v1 b1
  refine⟨⟨s0,l1,x1,s2,s3,s4,s5,s6,l7,x7⟩,?_,?_,?_⟩
  ·refine⟨rfl,λj c c' hc hc'=>?_⟩
   simp only[Cnd.enc]at hc'
   match j,hc,hc' with
   |0,hc,hc'=>cases hc;cases hc';exact⟨rfl,λ_ _ _ h=>h⟩
   |1,hc,hc'=>cases hc;cases hc';exact⟨rfl,v1⟩
   |2,hc,hc'=>cases hc;cases hc';exact⟨rfl,λ_ _ _ h=>h⟩
   |3,hc,hc'=>cases hc;cases hc';exact⟨rfl,λ_ _ _ h=>h⟩
   |4,hc,hc'=>cases hc;cases hc';exact⟨rfl,λ_ _ _ h=>h⟩
   |5,hc,hc'=>cases hc;cases hc';exact⟨rfl,λ_ _ _ h=>h⟩
   |6,hc,hc'=>cases hc;cases hc';exact⟨rfl,λ_ _ _ h=>h⟩
   |7,hc,hc'=>cases hc;cases hc';exact⟨rfl,v7⟩
   |j+8,hc,hc'=>simp at hc
  ·rw[Cnd.Wf]
   exact⟨⟨(int_bd z4).1,(int_bd z5).2⟩,Wfs_of z1⟩
  ·simp only[Cnd.enc,Yn,Zy];omega
theorem Rul_ofB {c:List D} (h:TC Tryz.prog 73 c):∃r:Rul,CellR c (Rul.enc r)/\(r.when.Wf)/\Yn (Rul.enc r)<=Yn c:=by
 obtain⟨hl,hf⟩:=h.toStruct Tryz.underlying73
 rw[Xk]at hl
 obtain⟨a0,a1,a2,a3,a4,a5,a6,a7,a8,a9,a10,a11,a12,a13,a14,rfl⟩:∃a0 a1 a2 a3 a4 a5 a6 a7 a8 a9 a10 a11 a12 a13 a14,c=[a0,a1,a2,a3,a4,a5,a6,a7,a8,a9,a10,a11,a12,a13,a14]:=by
  clear hf h
  match c,hl with
  | [a0,a1,a2,a3,a4,a5,a6,a7,a8,a9,a10,a11,a12,a13,a14],_=>exact⟨a0,a1,a2,a3,a4,a5,a6,a7,a8,a9,a10,a11,a12,a13,a14,rfl⟩
 simp only[List.mem_cons,List.not_mem_nil,forall_eq_or_imp,forall_eq,Zt,Zu,Zd,Xd,Xb,Xe,Xf,Xu,Xv,Xg,Xh,Xi,Xj,Jb,Zz,Xk,Xw,Xl,Xm,Xn,Xs,Xx,Xo,Xt,Ze,Zf,Zg,Zh,Zi,Zj,Zk,Xc,Zl,Zm,Zn,Zo,Zp,Zq,Zr,Zs,List.drop_succ_cons,List.drop_zero,List.take_succ_cons,List.take_zero,WY]at hf
 obtain⟨h0_0,h0_1,h0_2,h0_3,h0_4,h0_5,h0_6,h0_7⟩:=hf
 obtain⟨s0,e0,z0⟩:=h0_0.toInt Tryz.underlying3
 obtain⟨w,ew,qw,bw⟩:=Cnd_ofB _ (Uk _) h0_1
 cases w with |mk k' l' lx' u' v' pf' pt' pd' t' tx'=>?_
 simp only[Cnd.enc]at ew bw
 obtain⟨l9,x9,z9,v9,b9⟩:=Jh (enc:=encZ) (n:=1) Tryz.underlying70 Zt (λc h=>Int_ofB h) h0_2
 obtain⟨s10,e10,z10⟩:=h0_3.toInt Tryz.underlying3
 obtain⟨s11,e11,z11⟩:=h0_4.toInt Tryz.underlying3
 obtain⟨s12,e12,z12⟩:=h0_5.toInt Tryz.underlying3
 obtain⟨s13,e13,z13⟩:=h0_6.toInt Tryz.underlying3
 obtain⟨l14,x14,z14,v14,b14⟩:=Jh (enc:=encPc) (n:=2) Tryz.underlying71 Xh (λc h=>Pct_ofB h) h0_7
 simp only[List.cons.injEq,WY]at e0 e10 e11 e12 e13
 subst e0 e10 e11 e12 e13
 refine⟨⟨s0,⟨k',l',lx',u',v',pf',pt',pd',t',tx'⟩,l9,x9,s10,s11,s12,s13,l14,x14⟩,?_,qw,?_⟩
 ·simp only[Rul.enc,Cnd.enc,Uv,Vr]
  refine⟨rfl,λj c c' hc hc'=>?_⟩
  match j,hc,hc' with
  |0,hc,hc'=>cases hc;cases hc';exact⟨rfl,λ_ _ _ h=>h⟩
  |1,hc,hc'=>cases hc;cases hc';exact ew.2 0 _ _ rfl rfl
  |2,hc,hc'=>cases hc;cases hc';exact ew.2 1 _ _ rfl rfl
  |3,hc,hc'=>cases hc;cases hc';exact ew.2 2 _ _ rfl rfl
  |4,hc,hc'=>cases hc;cases hc';exact ew.2 3 _ _ rfl rfl
  |5,hc,hc'=>cases hc;cases hc';exact ew.2 4 _ _ rfl rfl
  |6,hc,hc'=>cases hc;cases hc';exact ew.2 5 _ _ rfl rfl
  |7,hc,hc'=>cases hc;cases hc';exact ew.2 6 _ _ rfl rfl
  |8,hc,hc'=>cases hc;cases hc';exact ew.2 7 _ _ rfl rfl
  |9,hc,hc'=>cases hc;cases hc';exact⟨rfl,v9⟩
  |10,hc,hc'=>cases hc;cases hc';exact⟨rfl,λ_ _ _ h=>h⟩
  |11,hc,hc'=>cases hc;cases hc';exact⟨rfl,λ_ _ _ h=>h⟩
  |12,hc,hc'=>cases hc;cases hc';exact⟨rfl,λ_ _ _ h=>h⟩
  |13,hc,hc'=>cases hc;cases hc';exact⟨rfl,λ_ _ _ h=>h⟩
  |14,hc,hc'=>cases hc;cases hc';exact⟨rfl,v14⟩
  |j+15,hc,hc'=>simp at hc
 ·simp only[Rul.enc,Cnd.enc,Uv,Vr,Yn,Zy]at bw ⊢;omega
theorem Prt_ofB {c:List D} (h:TC Tryz.prog 79 c):∃r:Prt,CellR c (Prt.enc r)/\(True)/\Yn (Prt.enc r)<=Yn c:=by
 obtain⟨hl,hf⟩:=h.toStruct Tryz.underlying79
 rw[Xl]at hl
 obtain⟨a0,a1,a2,a3,rfl⟩:∃a0 a1 a2 a3,c=[a0,a1,a2,a3]:=by
  clear hf h
  match c,hl with
  | [a0,a1,a2,a3],_=>exact⟨a0,a1,a2,a3,rfl⟩
 simp only[List.mem_cons,List.not_mem_nil,forall_eq_or_imp,forall_eq,Zt,Zu,Zd,Xd,Xb,Xe,Xf,Xu,Xv,Xg,Xh,Xi,Xj,Jb,Zz,Xk,Xw,Xl,Xm,Xn,Xs,Xx,Xo,Xt,Ze,Zf,Zg,Zh,Zi,Zj,Zk,Xc,Zl,Zm,Zn,Zo,Zp,Zq,Zr,Zs,List.drop_succ_cons,List.drop_zero,List.take_succ_cons,List.take_zero,WY]at hf
 obtain⟨h0_0,h0_1,h0_2,h0_3⟩:=hf
 obtain⟨s0,e0,z0⟩:=h0_0.toInt Tryz.underlying3
 obtain⟨s1,e1,z1⟩:=h0_1.toInt Tryz.underlying3
 obtain⟨s2,e2,z2⟩:=h0_2.toInt Tryz.underlying3
 obtain⟨s3,e3,z3⟩:=h0_3.toInt Tryz.underlying3
 simp only[List.cons.injEq,WY]at e0 e1 e2 e3
 subst e0 e1 e2 e3
 refine⟨⟨s0,s1,s2,s3⟩,?_,trivial,?_⟩
 ·refine⟨rfl,λj c c' hc hc'=>?_⟩
  match j,hc,hc' with
  |0,hc,hc'=>cases hc;cases hc';exact⟨rfl,λ_ _ _ h=>h⟩
  |1,hc,hc'=>cases hc;cases hc';exact⟨rfl,λ_ _ _ h=>h⟩
  |2,hc,hc'=>cases hc;cases hc';exact⟨rfl,λ_ _ _ h=>h⟩
  |3,hc,hc'=>cases hc;cases hc';exact⟨rfl,λ_ _ _ h=>h⟩
  |j+4,hc,hc'=>simp at hc
 ·simp only[Prt.enc,Yn,Zy];omega
theorem Chg_ofB {c:List D} (h:TC Tryz.prog 93 c):∃r:ByteArray×Int,CellR c (Jf r)/\(True)/\Yn (Jf r)<=Yn c:=by
 obtain⟨hl,hf⟩:=h.toStruct Tryz.underlying93
 rw[Xn]at hl
 obtain⟨a0,a1,rfl⟩:∃a0 a1,c=[a0,a1]:=by
  clear hf h
  match c,hl with
  | [a0,a1],_=>exact⟨a0,a1,rfl⟩
 simp only[List.mem_cons,List.not_mem_nil,forall_eq_or_imp,forall_eq,Zt,Zu,Zd,Xd,Xb,Xe,Xf,Xu,Xv,Xg,Xh,Xi,Xj,Jb,Zz,Xk,Xw,Xl,Xm,Xn,Xs,Xx,Xo,Xt,Ze,Zf,Zg,Zh,Zi,Zj,Zk,Xc,Zl,Zm,Zn,Zo,Zp,Zq,Zr,Zs,List.drop_succ_cons,List.drop_zero,List.take_succ_cons,List.take_zero,WY]at hf
 obtain⟨h0_0,h0_1⟩:=hf
 obtain⟨s0,e0,z0⟩:=h0_0.toStr Tryz.underlying9
 obtain⟨s1,e1,z1⟩:=h0_1.toInt Tryz.underlying3
 simp only[List.cons.injEq,WY]at e0 e1
 subst e0 e1
 refine⟨⟨s0,s1⟩,?_,trivial,?_⟩
 ·refine⟨rfl,λj c c' hc hc'=>?_⟩
  match j,hc,hc' with
  |0,hc,hc'=>cases hc;cases hc';exact⟨rfl,λ_ _ _ h=>h⟩
  |1,hc,hc'=>cases hc;cases hc';exact⟨rfl,λ_ _ _ h=>h⟩
  |j+2,hc,hc'=>simp at hc
 ·simp only[Jf,Yn,Zy];omega
theorem Wnt_ofB {c:List D} (h:TC Tryz.prog 77 c):∃r:Wnt,CellR c (Wnt.enc r)/\(True)/\Yn (Wnt.enc r)<=Yn c:=by
 obtain⟨hl,hf⟩:=h.toStruct Tryz.underlying77
 rw[Xo]at hl
 obtain⟨a0,a1,a2,a3,a4,a5,a6,a7,rfl⟩:∃a0 a1 a2 a3 a4 a5 a6 a7,c=[a0,a1,a2,a3,a4,a5,a6,a7]:=by
  clear hf h
  match c,hl with
  | [a0,a1,a2,a3,a4,a5,a6,a7],_=>exact⟨a0,a1,a2,a3,a4,a5,a6,a7,rfl⟩
 simp only[List.mem_cons,List.not_mem_nil,forall_eq_or_imp,forall_eq,Zt,Zu,Zd,Xd,Xb,Xe,Xf,Xu,Xv,Xg,Xh,Xi,Xj,Jb,Zz,Xk,Xw,Xl,Xm,Xn,Xs,Xx,Xo,Xt,Ze,Zf,Zg,Zh,Zi,Zj,Zk,Xc,Zl,Zm,Zn,Zo,Zp,Zq,Zr,Zs,List.drop_succ_cons,List.drop_zero,List.take_succ_cons,List.take_zero,WY]at hf
 obtain⟨h0_0,h0_1⟩:=hf
 obtain⟨-,g1⟩:=h0_0.toStruct Tryz.underlying75
 simp only[List.mem_cons,List.not_mem_nil,forall_eq_or_imp,forall_eq,Zt,Zu,Zd,Xd,Xb,Xe,Xf,Xu,Xv,Xg,Xh,Xi,Xj,Jb,Zz,Xk,Xw,Xl,Xm,Xn,Xs,Xx,Xo,Xt,Ze,Zf,Zg,Zh,Zi,Zj,Zk,Xc,Zl,Zm,Zn,Zo,Zp,Zq,Zr,Zs,List.drop_succ_cons,List.drop_zero,List.take_succ_cons,List.take_zero,WY]at g1
 obtain⟨h1_0,h1_1,h1_2,h1_3,h1_4,h1_5,h1_6⟩:=g1
 obtain⟨s0,e0,z0⟩:=h1_0.toStr Tryz.underlying9
 obtain⟨s1,e1,z1⟩:=h1_1.toInt Tryz.underlying3
 obtain⟨s2,e2,z2⟩:=h1_2.toInt Tryz.underlying3
 obtain⟨s3,e3,z3⟩:=h1_3.toStr Tryz.underlying9
 obtain⟨s4,e4,z4⟩:=h1_4.toStr Tryz.underlying9
 obtain⟨s5,e5,z5⟩:=h1_5.toInt Tryz.underlying3
 obtain⟨s6,e6,z6⟩:=h1_6.toInt Tryz.underlying3
 obtain⟨s7,e7,z7⟩:=h0_1.toStr Tryz.underlying9
 simp only[List.cons.injEq,WY]at e0 e1 e2 e3 e4 e5 e6 e7
 subst e0 e1 e2 e3 e4 e5 e6 e7
 refine⟨⟨s0,s1,s2,s3,s4,s5,s6,s7⟩,?_,trivial,?_⟩
 ·refine⟨rfl,λj c c' hc hc'=>?_⟩
  match j,hc,hc' with
  |0,hc,hc'=>cases hc;cases hc';exact⟨rfl,λ_ _ _ h=>h⟩
  |1,hc,hc'=>cases hc;cases hc';exact⟨rfl,λ_ _ _ h=>h⟩
  |2,hc,hc'=>cases hc;cases hc';exact⟨rfl,λ_ _ _ h=>h⟩
  |3,hc,hc'=>cases hc;cases hc';exact⟨rfl,λ_ _ _ h=>h⟩
  |4,hc,hc'=>cases hc;cases hc';exact⟨rfl,λ_ _ _ h=>h⟩
  |5,hc,hc'=>cases hc;cases hc';exact⟨rfl,λ_ _ _ h=>h⟩
  |6,hc,hc'=>cases hc;cases hc';exact⟨rfl,λ_ _ _ h=>h⟩
  |7,hc,hc'=>cases hc;cases hc';exact⟨rfl,λ_ _ _ h=>h⟩
  |j+8,hc,hc'=>simp at hc
 ·simp only[Wnt.enc,Yn,Zy];omega
theorem Two_ofB {c:List D} (h:TC Tryz.prog 91 c):∃r:Int×Int,CellR c (Xa r)/\True/\Yn (Xa r)<=Yn c:=by
 obtain⟨l4,f4⟩:=h.toArray Tryz.underlying91
 rw[Xm]at l4
 obtain⟨a0,a1,rfl⟩:∃a0 a1,c=[a0,a1]:=by
  clear f4 h
  match c,l4 with
  | [a0,a1],_=>exact⟨a0,a1,rfl⟩
 have g0:=f4 0 (by decide)
 have g1:=f4 1 (by decide)
 simp only[Zt,Nat.mul_one,List.drop_succ_cons,List.drop_zero,List.take_succ_cons,List.take_zero]at g0 g1
 obtain⟨s0,k0,-⟩:=g0.toInt Tryz.underlying3
 obtain⟨s1,k1,-⟩:=g1.toInt Tryz.underlying3
 simp only[List.cons.injEq,WY]at k0 k1
 subst k0 k1
 exact⟨(s0,s1),CellR.refl (λd hd=>by
  rcases List.mem_cons.1 hd with rfl |hd
  ·rfl
  ·obtain rfl:d=.int .i64 s1:=by simpa using hd
   rfl),trivial,Uk _⟩
theorem Quo_ofB {c:List D} (h:TC Tryz.prog 41 c):∃r:Quo,CellR c (Quo.enc r)/\(True)/\Yn (Quo.enc r)<=Yn c:=by
 obtain⟨hl,hf⟩:=h.toStruct Tryz.underlying41
 rw[Xs]at hl
 obtain⟨a0,a1,a2,a3,a4,rfl⟩:∃a0 a1 a2 a3 a4,c=[a0,a1,a2,a3,a4]:=by
  clear hf h
  match c,hl with
  | [a0,a1,a2,a3,a4],_=>exact⟨a0,a1,a2,a3,a4,rfl⟩
 simp only[List.mem_cons,List.not_mem_nil,forall_eq_or_imp,forall_eq,Zt,Zu,Zd,Xd,Xb,Xe,Xf,Xu,Xv,Xg,Xh,Xi,Xj,Jb,Zz,Xk,Xw,Xl,Xm,Xn,Xs,Xx,Xo,Xt,Ze,Zf,Zg,Zh,Zi,Zj,Zk,Xc,Zl,Zm,Zn,Zo,Zp,Zq,Zr,Zs,List.drop_succ_cons,List.drop_zero,List.take_succ_cons,List.take_zero,WY]at hf
 obtain⟨h0_0,h0_1,h0_2,h0_3,h0_4⟩:=hf
 obtain⟨l0,x0,z0,v0,b0⟩:=Jh (enc:=Prt.enc) (n:=4) Tryz.underlying37 Xl (λc h=>Prt_ofB h) h0_0
 obtain⟨l1,x1,z1,v1,b1⟩:=Jh (enc:=Xa) (n:=2) Tryz.underlying38 Xm (λc h=>Two_ofB h) h0_1
 obtain⟨l2,x2,z2,v2,b2⟩:=Jh (enc:=Jf) (n:=2) Tryz.underlying39 Xn (λc h=>Chg_ofB h) h0_2
 obtain⟨s3,e3,z3⟩:=h0_3.toInt Tryz.underlying3
 obtain⟨s4,e4,z4⟩:=h0_4.toInt Tryz.underlying3
 simp only[List.cons.injEq,WY]at e3 e4
 subst e3 e4
 refine⟨⟨l0,x0,l1,x1,l2,x2,s3,s4⟩,?_,trivial,?_⟩
 ·refine⟨rfl,λj c c' hc hc'=>?_⟩
  match j,hc,hc' with
  |0,hc,hc'=>cases hc;cases hc';exact⟨rfl,v0⟩
  |1,hc,hc'=>cases hc;cases hc';exact⟨rfl,v1⟩
  |2,hc,hc'=>cases hc;cases hc';exact⟨rfl,v2⟩
  |3,hc,hc'=>cases hc;cases hc';exact⟨rfl,λ_ _ _ h=>h⟩
  |4,hc,hc'=>cases hc;cases hc';exact⟨rfl,λ_ _ _ h=>h⟩
  |j+5,hc,hc'=>simp at hc
 ·simp only[Quo.enc,Yn,Zy];omega
theorem Jny_ofB {c:List D} (h:TC Tryz.prog 34 c):∃r:Jny,CellR c (Jny.enc r)/\(∀x∈r.t.rules,x.when.Wf)/\Yn (Jny.enc r)<=Yn c:=by
 obtain⟨hl,hf⟩:=h.toStruct Tryz.underlying34
 rw[Xt]at hl
 obtain⟨a0,a1,a2,a3,a4,a5,a6,a7,a8,rfl⟩:∃a0 a1 a2 a3 a4 a5 a6 a7 a8,c=[a0,a1,a2,a3,a4,a5,a6,a7,a8]:=by
  clear hf h
  match c,hl with
  | [a0,a1,a2,a3,a4,a5,a6,a7,a8],_=>exact⟨a0,a1,a2,a3,a4,a5,a6,a7,a8,rfl⟩
 simp only[List.mem_cons,List.not_mem_nil,forall_eq_or_imp,forall_eq,Zt,Zu,Zd,Xd,Xb,Xe,Xf,Xu,Xv,Xg,Xh,Xi,Xj,Jb,Zz,Xk,Xw,Xl,Xm,Xn,Xs,Xx,Xo,Xt,Ze,Zf,Zg,Zh,Zi,Zj,Zk,Xc,Zl,Zm,Zn,Zo,Zp,Zq,Zr,Zs,List.drop_succ_cons,List.drop_zero,List.take_succ_cons,List.take_zero,WY]at hf
 obtain⟨h0_0,h0_1,h0_2,h0_3,h0_4⟩:=hf
 obtain⟨-,g1⟩:=h0_0.toStruct Tryz.underlying25
 simp only[List.mem_cons,List.not_mem_nil,forall_eq_or_imp,forall_eq,Zt,Zu,Zd,Xd,Xb,Xe,Xf,Xu,Xv,Xg,Xh,Xi,Xj,Jb,Zz,Xk,Xw,Xl,Xm,Xn,Xs,Xx,Xo,Xt,Ze,Zf,Zg,Zh,Zi,Zj,Zk,Xc,Zl,Zm,Zn,Zo,Zp,Zq,Zr,Zs,List.drop_succ_cons,List.drop_zero,List.take_succ_cons,List.take_zero,WY]at g1
 obtain⟨h1_0,h1_1⟩:=g1
 obtain⟨l0,x0,z0,v0,b0⟩:=Jh (enc:=Apt.enc) (n:=5) Tryz.underlying22 Xe (λc h=>Apt_ofB h) h1_0
 obtain⟨l1,x1,z1,v1,b1⟩:=Jh (enc:=Dst.enc) (n:=3) Tryz.underlying23 Xf (λc h=>Dst_ofB h) h1_1
 obtain⟨-,g2⟩:=h0_1.toStruct Tryz.underlying31
 simp only[List.mem_cons,List.not_mem_nil,forall_eq_or_imp,forall_eq,Zt,Zu,Zd,Xd,Xb,Xe,Xf,Xu,Xv,Xg,Xh,Xi,Xj,Jb,Zz,Xk,Xw,Xl,Xm,Xn,Xs,Xx,Xo,Xt,Ze,Zf,Zg,Zh,Zi,Zj,Zk,Xc,Zl,Zm,Zn,Zo,Zp,Zq,Zr,Zs,List.drop_succ_cons,List.drop_zero,List.take_succ_cons,List.take_zero,WY]at g2
 obtain⟨h2_0,h2_1,h2_2,h2_3⟩:=g2
 obtain⟨l2,x2,z2,v2,b2⟩:=Jh (enc:=Far.enc) (n:=9) Tryz.underlying26 Xg (λc h=>Far_ofB h) h2_0
 obtain⟨l3,x3,z3,v3,b3⟩:=Jh (enc:=Rul.enc) (n:=15) Tryz.underlying27 Xk (λc h=>Rul_ofB h) h2_1
 obtain⟨l4,x4,z4,v4,b4⟩:=Jh (enc:=Rou.enc) (n:=3) Tryz.underlying28 Xj (λc h=>Rou_ofB h) h2_2
 obtain⟨l5,x5,z5,v5,b5⟩:=Jh (enc:=Tx.enc) (n:=7) Tryz.underlying29 Jb (λc h=>Tx_ofB h) h2_3
 obtain⟨l6,x6,z6,v6,b6⟩:=Jh (enc:=Wnt.enc) (n:=8) Tryz.underlying32 Xo (λc h=>Wnt_ofB h) h0_2
 obtain⟨s7,e7,z7⟩:=h0_3.toStr Tryz.underlying9
 obtain⟨s8,e8,z8⟩:=h0_4.toInt Tryz.underlying3
 simp only[List.cons.injEq,WY]at e7 e8
 subst e7 e8
 refine⟨⟨⟨l0,x0,l1,x1⟩,⟨l2,x2,l3,x3,l4,x4,l5,x5⟩,l6,x6,s7,s8⟩,?_,z3,?_⟩
 ·refine⟨rfl,λj c c' hc hc'=>?_⟩
  match j,hc,hc' with
  |0,hc,hc'=>cases hc;cases hc';exact⟨rfl,v0⟩
  |1,hc,hc'=>cases hc;cases hc';exact⟨rfl,v1⟩
  |2,hc,hc'=>cases hc;cases hc';exact⟨rfl,v2⟩
  |3,hc,hc'=>cases hc;cases hc';exact⟨rfl,v3⟩
  |4,hc,hc'=>cases hc;cases hc';exact⟨rfl,v4⟩
  |5,hc,hc'=>cases hc;cases hc';exact⟨rfl,v5⟩
  |6,hc,hc'=>cases hc;cases hc';exact⟨rfl,v6⟩
  |7,hc,hc'=>cases hc;cases hc';exact⟨rfl,λ_ _ _ h=>h⟩
  |8,hc,hc'=>cases hc;cases hc';exact⟨rfl,λ_ _ _ h=>h⟩
  |j+9,hc,hc'=>simp at hc
 ·simp only[Jny.enc,Yn,Zy];omega
theorem bulk_lenM {α:Type} {enc:α->List D} {l:List α} (h:∀x,1<=Yn (enc x)):l.length<=Jj (l.map enc):=by
 have:=bulk_len (m:=1) (es:=l.map enc) λc hc=>by
  obtain⟨x,-,rfl⟩:=Vq.1 hc
  exact h x
 rw[Uq]at this
 omega
theorem bulk_memM {α:Type} {enc:α->List D} {l:List α} {x:α} (h:x∈l):Yn (enc x)<=Jj (l.map enc):=bulk_mem (Vq.2 ⟨x,h,rfl⟩)
theorem bulk_app:∀(a b:List D),Yn (a++b)=Yn a+Yn b
 | [],b=>by simp[Yn]
 |x::a,b=>by
  have:=bulk_app a b
  simp only[Uv,Yn];omega
theorem Jny_bound {j:Jny} (h:Yn j.enc<=1048576) (q3:∀x∈j.t.rules,x.when.Wf):JnyB j:=by
 simp only[Jny.enc,Yn,Zy]at h
 have la:=bulk_lenM (enc:=Apt.enc) (l:=j.p.aps) (λx=>by simp only[Apt.enc,Yn,Zy];omega)
 have lw:=bulk_lenM (enc:=Wnt.enc) (l:=j.l) (λx=>by simp only[Wnt.enc,Yn,Zy];omega)
 refine⟨λc hc=>?_,by omega,λa ha=>?_,λf hf=>?_,λr hr=>?_,λr hr=>?_,λx hx=>?_,by omega,λx hx=>?_⟩
 ·have:=bulk_memM (enc:=Apt.enc) hc
  simp only[Apt.enc,Yn,Zy]at this
  omega
 ·have:=bulk_memM (enc:=Apt.enc) ha
  simp only[Apt.enc,Yn,Zy]at this
  have l2:=bulk_lenM (enc:=Shf.enc) (l:=a.sh) (λx=>by simp only[Shf.enc,Yn,Zy];omega)
  omega
 ·have:=bulk_memM (enc:=Far.enc) hf
  simp only[Far.enc,Yn,Zy]at this
  omega
 ·have:=bulk_memM (enc:=Rul.enc) hr
  simp only[Rul.enc,Yn,Zy,bulk_app]at this
  have l2:=bulk_lenM (enc:=encZ) (l:=r.comb) (λx=>by simp only[Yn,Zy];omega)
  have l3:=bulk_lenM (enc:=encPc) (l:=r.pcs) (λx=>by simp only[Yn,Zy];omega)
  refine⟨q3 r hr,by omega,by omega,by omega,λp hp=>?_⟩
  have:=bulk_memM (enc:=encPc) hp
  simp only[Yn,Zy]at this
  omega
 ·have:=bulk_memM (enc:=Rou.enc) hr
  simp only[Rou.enc,Yn,Zy]at this
  have l2:=bulk_lenM (enc:=encLk) (l:=r.links) (λx=>by simp only[Yn,Zy];omega)
  refine⟨by omega,λx hx=>?_⟩
  have:=bulk_memM (enc:=encLk) hx
  simp only[Yn,Zy]at this
  omega
 ·have:=bulk_memM (enc:=Tx.enc) hx
  simp only[Tx.enc,Yn,Zy]at this
  have l2:=bulk_lenM (enc:=Cnd.encT) (l:=x.free) (λx=>by simp only[Yn,Zy];omega)
  refine⟨by omega,by omega,λs hs=>?_,by omega⟩
  have:=bulk_memM (enc:=Cnd.encT) hs
  simp only[Yn,Zy]at this
  omega
 ·have:=bulk_memM (enc:=Dst.enc) hx
  simp only[Dst.enc,Yn,Zy]at this
  omega
theorem Quo_bound {u:Quo} (h:Yn u.enc<=1048576):u.parts.length<=1048576/\u.pairs.length<=1048576/\u.taxes.length<=1048576:=by
 simp only[Quo.enc,Yn,Zy]at h
 have l1:=bulk_lenM (enc:=Prt.enc) (l:=u.parts) (λx=>by simp only[Prt.enc,Yn,Zy];omega)
 have l2:=bulk_lenM (enc:=Xa) (l:=u.pairs) (λx=>by simp only[Xa,Yn,Zy];omega)
 have l3:=bulk_lenM (enc:=Jf) (l:=u.taxes) (λx=>by simp only[Jf,Yn,Zy];omega)
 exact⟨by omega,by omega,by omega⟩
theorem agg_jny:aggT Tryz.prog 34=some true:=by kernel_rfl
theorem agg_quo:aggT Tryz.prog 41=some true:=by kernel_rfl
theorem PriceChecks_walk {W:World} {xs:List D} {vs:Array Value} (ht:TVs Tryz.prog [34,41] xs) (hv:VRs W ⟨Tryz.prog,λ_=>none,λg=>g<W.heap.size⟩ xs vs.toList) (hb:Yn xs<=1048576):
  Calls Tryz.prog 4 vs W λe W'=>e=.returned (.bool true)/\Below W.heap.size W W':=by
 obtain⟨d1,_,rfl,h1,ht⟩:=ht.inv
 obtain⟨d2,_,rfl,h2,ht⟩:=ht.inv
 have:=ht.inv0
 subst this
 simp only[Yn]at hb
 obtain⟨v1,v2,hvs⟩:∃v1 v2,vs.toList=[v1,v2]:=by
  have:=hv.1
  match vs.toList,this with
  | [v1,v2],_=>exact⟨v1,v2,rfl⟩
 rw[hvs]at hv
 have r1:=hv.head
 have r2:=hv.tail.head
 obtain⟨c1,rfl,t1⟩:=h1.agg agg_jny
 obtain⟨j,e1,q1,b1⟩:=Jny_ofB t1
 obtain⟨c2,rfl,t2⟩:=h2.agg agg_quo
 obtain⟨u,e2,-,b2⟩:=Quo_ofB t2
 simp only[Zy]at hb
 have hj:=Jny_bound (j:=j) (by omega) q1
 obtain⟨_,T,hT,rfl⟩:=PriceChecks_d (n:=1000000100) (by omega) hj u (Quo_bound (by omega))
 refine true_of_dcall envOk (I:=λg=>g<W.heap.size) hT (λg h=>h) (λg cs hg=>by cases hg) ?_
 rw[hvs]
 exact VRs.cons (agg_rel e1 r1) (VRs.cons (agg_rel e2 r2) VRs.nil)
end Go.Proofs.YtaklebjoenophaaGreat
