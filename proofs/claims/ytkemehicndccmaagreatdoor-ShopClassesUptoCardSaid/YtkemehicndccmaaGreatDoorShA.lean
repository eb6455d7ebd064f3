/-
  The reference's check of shares: some list.
-/
import Derived.Test.YtkemehicndccmaaGreatDoorScA
set_option linter.unusedSimpArgs false
set_option linter.unusedVariables false
namespace Go.Proofs.YtkemehicndccmaaGreatDoor.Dm
open Go Gw
set_option linter.unusedSimpArgs false
set_option linter.unusedSimpArgs false
structure Shr where
 car:ByteArray
 num:Int
 pf:Int
 pt:Int
 pd:Int
 opr:ByteArray
 nas:Int
 frm:ByteArray
 dst:ByteArray
def Shr.enc (x:Shr):List D:=[.str x.car,.int .i64 x.num,.int .i64 x.pf,.int .i64 x.pt,.int .i64 x.pd,.str x.opr,.int .i64 x.nas,.str x.frm,.str x.dst]
theorem Shrs_pure (l:List Shr):pureLL (l.map Shr.enc)=true:=by
 induction l with
 |nil=>rfl
 |cons f fs ih=>rw[List.map_cons,pureLL_cons,ih];rfl
structure ShrB (x:Shr):Prop where
 car:x.car.size≤1048576
 opr:x.opr.size≤1048576
 pf: -9223372036854775808≤x.pf
 pt:x.pt≤9223372036854775807
def sharT:ByteArray:=ByteArray.mk #[115,104,97,114,101,32]
theorem onD_lit (o:Option Flt):∃c0 c1 c2 c3 c4 c5,onD o=[c0,c1,c2,c3,c4,c5]∧(c0.one=true∧c1.one=true∧c2.one=true∧c3.one=true∧c4.one=true∧c5.one=true):=by
 cases o with
 |none=>exact⟨_,_,_,_,_,_,rfl,rfl,rfl,rfl,rfl,rfl,rfl⟩
 |some f=>exact⟨_,_,_,_,_,_,rfl,rfl,rfl,rfl,rfl,rfl,rfl⟩
section
variable {n : Nat}
set_option maxHeartbeats 4000000 in
theorem leads09_c (hn:1048600≤n) {f:Flt} (hf:FltB f) (s u:ByteArray):∃b,∀st S,callD E (dcall E n) st S 121 [.agg f.enc,.str s,.str u]=some (.bool b,S):=by
 obtain⟨m,rfl⟩:∃m,n=m+1:=⟨n-1,by omega⟩
 have hp:pureL [.agg f.enc,.str s,.str u]=true:=by simp only[pureL_cons,pureL_nil,D.pure,Flt_pure,Bool.and_self]
 have hlen:=hf.len
 obtain⟨car,num,pf,pt,pd,ls,lx⟩:=f
 dsimp only at hlen
 simp only[Flt.enc]at hp ⊢
 have:WO (dcall E (m+1) 121 [.agg [.str car,.int .i64 num,.int .i64 pf,.int .i64 pt,.int .i64 pd,.sl 5 (ls.map Lg7.enc) lx],.str s,.str u] []) fun r T=>∃b,r=.bool b:=by
  refine wo_dcall Tryz.func121 rfl (by decide) rfl 38 rfl (fun a hal ha=>?_)
  have h0:a[0]? =some (.agg [.str car,.int .i64 num,.int .i64 pf,.int .i64 pt,.int .i64 pd,.sl 5 (ls.map Lg7.enc) lx]):=ha 0 (by simp)
  have h1:a[1]? =some (.str s):=ha 1 (by simp)
  have h2:a[2]? =some (.str u):=ha 2 (by simp)
  clear ha
  simp(maxSteps:=1000000)(disch:=omega)only[push_cast,h0,↓WX,simprocAttr]
  refine wl_loop (fun i a T=>(T=[Ob.row 6 [[.str car,.int .i64 num,.int .i64 pf,.int .i64 pt,.int .i64 pd,.sl 5 (ls.map Lg7.enc) lx]]]∧∃b,a[7]? =some (.bool b))∧a.length=38∧a[1]? =some (.str s)∧a[2]? =some (.str u)∧a[3]? =some (.loc 0 0 0)∧a[8]? =some (.int .i64 i)) ls.length ?_ (by omega) ?_
  ·simp(maxSteps:=1000000)(disch:=omega)only[push_cast,hal,h1,h2,Int.natCast_zero,simprocAttr]
   exact⟨_,rfl⟩
  clear hal h0 h1 h2 a
  rintro i a T hi ⟨⟨rfl,b,h7⟩,hal,h1,h2,h3,h8⟩
  rcases Nat.lt_or_eq_of_le hi with hlt |rfl
  case inr=>
   simp(maxSteps:=1000000)(disch:=omega)only[push_cast,hal,h3,h8,Int.lt_irrefl,Tryz.f121,↓WX,simprocAttr]
   exact⟨_,rfl⟩
  obtain⟨y,hy⟩:∃y,ls[i]? =some y:=⟨ls[i],by simp⟩
  have hltc:(i:Int)<ls.length:=by omega
  by_cases q2:y.dst=u
  ·cases b
   ·by_cases q1:y.frm=s
    ·simp(maxSteps:=1000000)(disch:=omega)only[push_cast,hal,h1,h2,h3,h7,h8,hltc,hy,q1,q2,str_eq,decide_true,Lg7.enc,Tryz.f121,↓WX,simprocAttr]
     exact⟨_,rfl⟩
    ·simp(maxSteps:=1000000)(disch:=omega)only[push_cast,hal,h1,h2,h3,h7,h8,hltc,hlt,hy,q1,q2,str_eq,decide_false,Lg7.enc,wrap_ok,Int.natCast_add,Int.natCast_one,↓WX,simprocAttr]
     exact⟨_,rfl⟩
   ·simp(maxSteps:=1000000)(disch:=omega)only[push_cast,hal,h2,h3,h7,h8,hltc,hy,q2,str_eq,decide_true,Lg7.enc,Tryz.f121,↓WX,simprocAttr]
    exact⟨_,rfl⟩
  ·cases b
   ·by_cases q1:y.frm=s
    ·simp(maxSteps:=1000000)(disch:=omega)only[push_cast,hal,h1,h2,h3,h7,h8,hltc,hlt,hy,q1,q2,str_eq,decide_true,decide_false,Lg7.enc,wrap_ok,Int.natCast_add,Int.natCast_one,↓WX,simprocAttr]
     exact⟨_,rfl⟩
    ·simp(maxSteps:=1000000)(disch:=omega)only[push_cast,hal,h1,h2,h3,h7,h8,hltc,hlt,hy,q1,str_eq,decide_true,decide_false,Lg7.enc,wrap_ok,Int.natCast_add,Int.natCast_one,↓WX,simprocAttr]
     exact⟨_,rfl⟩
   ·simp(maxSteps:=1000000)(disch:=omega)only[push_cast,hal,h1,h2,h3,h7,h8,hltc,hlt,hy,q2,str_eq,decide_true,decide_false,Lg7.enc,wrap_ok,Int.natCast_add,Int.natCast_one,↓WX,simprocAttr]
    exact⟨_,rfl⟩
 obtain⟨_,T,ho,b,rfl⟩:=this
 exact⟨b,fun st S=>callD_pure rfl hp ho rfl⟩
set_option maxHeartbeats 16000000 in
set_option maxRecDepth 100000 in
theorem days09_d (hn:1048700≤n) {l:List Flt} {lx:Bool} (hl:l.length≤100) (hf:∀f∈l,FltB f) {w:List Shr} {wx:Bool} (hw:w.length≤100) (hsb:∀x∈w,ShrB x) {i:Nat} (hi:i<w.length):
  WO (dcall E (n+1) 90 [.sl 6 (l.map Flt.enc) lx,.sl 9 (w.map Shr.enc) wx,.int .i64 i] []) fun d T=>∃es,GL 1 encI T d es∧es.length≤3:=by
 obtain⟨x,hx⟩:∃x,w[i]? =some x:=⟨w[i],by simp⟩
 have hxb:=hsb x (List.mem_of_getElem? hx)
 obtain⟨dd,dl,hdd,hdl,hdx,cdd⟩:=Days04_c (n:=n) (d:=x.pd) (by omega) hxb.pf hxb.pt
 refine wo_dcall Tryz.func90 rfl (by decide) rfl 135 rfl (fun a hal ha=>?_)
 have h0:a[0]? =some (.sl 6 (l.map Flt.enc) lx):=ha 0 (by simp)
 have h1:a[1]? =some (.sl 9 (w.map Shr.enc) wx):=ha 1 (by simp)
 have h2:a[2]? =some (.int .i64 i):=ha 2 (by simp)
 clear ha
 obtain⟨S0,hS0⟩:∃S0,S0=[Ob.row 9 [[.str x.car,.int .i64 x.num,.int .i64 x.pf,.int .i64 x.pt,.int .i64 x.pd,.str x.opr,.int .i64 x.nas,.str x.frm,.str x.dst]]]:=⟨_,rfl⟩
 have g0:S0[0]? =some (.row 9 [[.str x.car,.int .i64 x.num,.int .i64 x.pf,.int .i64 x.pt,.int .i64 x.pd,.str x.opr,.int .i64 x.nas,.str x.frm,.str x.dst]]):=by rw[hS0];rfl
 have hic:(i:Int)<w.length:=by omega
 have hwd:∀(T:List Ob) (a:List D),True:=fun _ _=>trivial
 rw[wc_asc]
 refine wc_scut (fun a V=>V=([]:List Ob)∧a.length=135∧a[0]? =some (.sl 6 (l.map Flt.enc) lx)∧a[1]? =some (.sl 9 (w.map Shr.enc) wx)∧a[2]? =some (.int .i64 i)∧a[7]? =some (.nils)) ?_ ?_
 ·simp(maxSteps:=1000000)(disch:=omega)only[push_cast,hal,h0,h1,h2,↓WX,simprocAttr]
 clear hal h0 h1 h2 a
 rintro a V ⟨rfl,hal,h0,h1,h2,h7⟩
 refine wc_scut (fun a V=>V=S0∧a.length=135∧a[0]? =some (.sl 6 (l.map Flt.enc) lx)∧a[1]? =some (.sl 9 (w.map Shr.enc) wx)∧a[2]? =some (.int .i64 i)∧a[7]? =some (.nils)∧a[8]? =some (.loc 0 0 0)∧a[9]? =some (.bool false)∧a[10]? =some (.bool false)∧a[11]? =some (.bool false)) ?_ ?_
 ·simp(maxSteps:=1000000)(disch:=omega)only[push_cast,hal,h0,h1,h2,h7,hx,Shr.enc,↓WX,simprocAttr]
  exact hS0.symm
 clear hal h0 h1 h2 h7 a
 rintro a V ⟨rfl,hal,h0,h1,h2,h7,h8,h9,h10,h11⟩
 refine wc_scut (fun a W=>W=V∧a.length=135∧a[0]? =some (.sl 6 (l.map Flt.enc) lx)∧a[1]? =some (.sl 9 (w.map Shr.enc) wx)∧a[2]? =some (.int .i64 i)∧a[7]? =some (.nils)∧a[8]? =some (.loc 0 0 0)∧a[9]? =some (.bool false)∧a[10]? =some (.bool false)∧a[11]? =some (.bool false)∧a[12]? =some (dd)) ?_ ?_
 ·simp(maxSteps:=1000000)(disch:=omega)only[push_cast,hal,h0,h1,h2,h7,h8,h9,h10,h11,g0,cdd,↓WX,simprocAttr]
 clear hal h0 h1 h2 h7 h8 h9 h10 h11 a
 rintro a W ⟨rfl,hal,h0,h1,h2,h7,h8,h9,h10,h11,h12⟩
 refine wc_scut (fun a T=>(∃b1 b2 b3,a[9]? =some (.bool b1)∧a[10]? =some (.bool b2)∧a[11]? =some (.bool b3))∧a.length=135∧a[7]? =some (.nils)) ?_ ?_
 ·rcases hdd with ⟨rfl,rfl⟩ | ⟨yd,rfl⟩
  ·simp(maxSteps:=1000000)(disch:=omega)only[push_cast,↓WX,simprocAttr]
   refine wl_loop (fun i a T=>(i=0∧T=W)∧a.length=135∧a[7]? =some (.nils)∧a[9]? =some (.bool false)∧a[10]? =some (.bool false)∧a[11]? =some (.bool false)∧a[12]? =some (.nils)∧a[13]? =some (.int .i64 0)) 0 ?_ (by omega) ?_
   ·simp(maxSteps:=1000000)(disch:=omega)only[push_cast,hal,h7,h9,h10,h11,h12,simprocAttr]
   clear hal h0 h1 h2 h7 h8 h9 h10 h11 h12 a
   rintro i a T hi ⟨⟨rfl,rfl⟩,hal,h7,h9,h10,h11,h12,h13⟩
   simp(maxSteps:=1000000)(disch:=omega)only[push_cast,hal,h7,h9,h10,h11,h12,h13,Int.lt_irrefl,↓WX,simprocAttr]
   exact⟨_,_,_,rfl,rfl,rfl⟩
  simp(maxSteps:=1000000)(disch:=omega)only[push_cast,↓WX,simprocAttr]
  refine wl_loop (fun k a T=>(KeepN 1 W T∧∃b1 b2 b3,a[9]? =some (.bool b1)∧a[10]? =some (.bool b2)∧a[11]? =some (.bool b3))∧a.length=135∧a[0]? =some (.sl 6 (l.map Flt.enc) lx)∧a[1]? =some (.sl 9 (w.map Shr.enc) wx)∧a[2]? =some (.int .i64 i)∧a[7]? =some (.nils)∧a[8]? =some (.loc 0 0 0)∧a[12]? =some (.sl 1 (dl.map encI) yd)∧a[13]? =some (.int .i64 k)) dl.length ?_ (by omega) ?_
  ·simp(maxSteps:=1000000)(disch:=omega)only[push_cast,hal,h0,h1,h2,h7,h8,h9,h10,h11,h12,Int.natCast_zero,simprocAttr]
   exact⟨KeepN.refl,_,_,_,rfl,rfl,rfl⟩
  clear hal h0 h1 h2 h7 h8 h9 h10 h11 h12 a
  rintro k a T hk ⟨⟨k1,b1,b2,b3,h9,h10,h11⟩,hal,h0,h1,h2,h7,h8,h12,h13⟩
  have v0:=k1 _ _ _ (by decide) g0
  rcases Nat.lt_or_eq_of_le hk with hkt |rfl
  case inr=>
   simp(maxSteps:=1000000)(disch:=omega)only[push_cast,hal,h7,h9,h10,h11,h12,h13,Int.lt_irrefl,↓WX,simprocAttr]
   exact⟨_,_,_,rfl,rfl,rfl⟩
  obtain⟨z,hz⟩:∃z,dl[k]? =some z:=⟨dl[k],by simp⟩
  have hktc:(k:Int)<dl.length:=by omega
  obtain⟨o1,ho1,co1⟩:=On08_c (n:=n) (lx:=lx) (by omega) hl hf x.opr x.nas z
  obtain⟨o2,ho2,co2⟩:=On08_c (n:=n) (lx:=lx) (by omega) hl hf x.car x.num z
  obtain⟨e0,e1,e2,e3,e4,e5,he,y0,y1,y2,y3,y4,y5⟩:=onD_lit o1
  obtain⟨f0,f1,f2,f3,f4,f5,hfq,w0,w1,w2,w3,w4,w5⟩:=onD_lit o2
  rw[he]at co1
  rw[hfq]at co2
  simp only[D.one]at y0 y1 y2 y3 y4 y5 w0 w1 w2 w3 w4 w5
  obtain⟨bl,clb⟩:∃b,o1.isSome=true→∀st S,callD E (dcall E n) st S 121 [.agg [e0,e1,e2,e3,e4,e5],.str x.frm,.str x.dst]=some (.bool b,S):=by
   cases o1 with
   |none=>exact⟨false,fun h=>by cases h⟩
   |some f=>
    obtain⟨b,cb⟩:=leads09_c (n:=n) (by omega) (hf f (ho1 f rfl)) x.frm x.dst
    rw[show onD (some f)=f.enc from rfl]at he
    rw[he]at cb
    exact⟨b,fun _=>cb⟩
  generalize o1.isSome=s1 at*
  generalize o2.isSome=s2 at*
  refine wc_scut (fun a V=>V=T∧a.length=135∧a[0]? =some (.sl 6 (l.map Flt.enc) lx)∧a[1]? =some (.sl 9 (w.map Shr.enc) wx)∧a[2]? =some (.int .i64 i)∧a[7]? =some (.nils)∧a[8]? =some (.loc 0 0 0)∧a[9]? =some (.bool b1)∧a[10]? =some (.bool b2)∧a[11]? =some (.bool b3)∧a[12]? =some (.sl 1 (dl.map encI) yd)∧a[13]? =some (.int .i64 k)) ?_ ?_
  ·simp(maxSteps:=1000000)(disch:=omega)only[push_cast,hal,h0,h1,h2,h7,h8,h9,h10,h11,h12,h13,hktc,↓WX,simprocAttr]
  clear hal h0 h1 h2 h7 h8 h9 h10 h11 h12 h13 a
  rintro a V ⟨rfl,hal,h0,h1,h2,h7,h8,h9,h10,h11,h12,h13⟩
  rw[wc_seq,wc_block]
  obtain⟨T1,hT1⟩:∃T1,T1=V++[Ob.row 6 [[e0,e1,e2,e3,e4,e5]]]:=⟨_,rfl⟩
  have x1:T1[V.length]? =some (.row 6 [[e0,e1,e2,e3,e4,e5]]):=by rw[hT1];exact get_end
  have k2:KeepN 1 W T1:=k1.trans (by rw[hT1];exact KeepN.push)
  have v1:=k2 _ _ _ (by decide) g0
  refine wc_scut (fun a V'=>V'=T1∧a.length=135∧a[0]? =some (.sl 6 (l.map Flt.enc) lx)∧a[1]? =some (.sl 9 (w.map Shr.enc) wx)∧a[2]? =some (.int .i64 i)∧a[7]? =some (.nils)∧a[8]? =some (.loc 0 0 0)∧a[9]? =some (.bool b1)∧a[10]? =some (.bool b2)∧a[11]? =some (.bool b3)∧a[12]? =some (.sl 1 (dl.map encI) yd)∧a[13]? =some (.int .i64 k)∧a[14]? =some (.loc V.length 0 0)∧a[15]? =some (.bool s1)) ?_ ?_
  ·simp(maxSteps:=1000000)(disch:=omega)only[push_cast,hal,h0,h1,h2,h7,h8,h9,h10,h11,h12,h13,v0,hz,co1,y0,y1,y2,y3,y4,y5,encI,set_end,get_end,↓WX,simprocAttr]
   exact hT1.symm
  clear hal h0 h1 h2 h7 h8 h9 h10 h11 h12 h13 a
  clear hT1
  rintro a V' ⟨rfl,hal,h0,h1,h2,h7,h8,h9,h10,h11,h12,h13,h14,h15⟩
  refine wc_scut (fun a V2=>(V2=V'∧∃b,a[9]? =some (.bool b))∧a.length=135∧a[0]? =some (.sl 6 (l.map Flt.enc) lx)∧a[1]? =some (.sl 9 (w.map Shr.enc) wx)∧a[2]? =some (.int .i64 i)∧a[7]? =some (.nils)∧a[8]? =some (.loc 0 0 0)∧a[10]? =some (.bool b2)∧a[11]? =some (.bool b3)∧a[12]? =some (.sl 1 (dl.map encI) yd)∧a[13]? =some (.int .i64 k)∧a[14]? =some (.loc V.length 0 0)∧a[15]? =some (.bool s1)) ?_ ?_
  ·cases b1
   ·simp(maxSteps:=1000000)(disch:=omega)only[push_cast,hal,h0,h1,h2,h7,h8,h9,h10,h11,h12,h13,h14,h15,dUn,↓WX,simprocAttr]
    exact⟨_,rfl⟩
   ·simp(maxSteps:=1000000)(disch:=omega)only[push_cast,hal,h0,h1,h2,h7,h8,h9,h10,h11,h12,h13,h14,h15,↓WX,simprocAttr]
    exact⟨_,rfl⟩
  clear hal h0 h1 h2 h7 h8 h9 h10 h11 h12 h13 h14 h15 a
  rintro a V2 ⟨⟨rfl,c1,h9⟩,hal,h0,h1,h2,h7,h8,h10,h11,h12,h13,h14,h15⟩
  refine wc_scut (fun a V3=>(V3=V2∧∃b,a[10]? =some (.bool b))∧a.length=135∧a[0]? =some (.sl 6 (l.map Flt.enc) lx)∧a[1]? =some (.sl 9 (w.map Shr.enc) wx)∧a[2]? =some (.int .i64 i)∧a[7]? =some (.nils)∧a[8]? =some (.loc 0 0 0)∧a[9]? =some (.bool c1)∧a[11]? =some (.bool b3)∧a[12]? =some (.sl 1 (dl.map encI) yd)∧a[13]? =some (.int .i64 k)) ?_ ?_
  ·cases b2
   case true=>
    simp(maxSteps:=1000000)(disch:=omega)only[push_cast,hal,h0,h1,h2,h7,h8,h9,h10,h11,h12,h13,↓WX,simprocAttr]
    exact⟨_,rfl⟩
   cases s1
   case false=>
    simp(maxSteps:=1000000)(disch:=omega)only[push_cast,hal,h0,h1,h2,h7,h8,h9,h10,h11,h12,h13,h15,↓WX,simprocAttr]
    exact⟨_,rfl⟩
   have clb:=clb rfl
   simp(maxSteps:=1000000)(disch:=omega)only[push_cast,hal,h0,h1,h2,h7,h8,h9,h10,h11,h12,h13,h14,h15,v1,x1,clb,dUn,↓WX,simprocAttr]
   exact⟨_,rfl⟩
  clear hal h0 h1 h2 h7 h8 h9 h10 h11 h12 h13 h14 h15 a
  rintro a V3 ⟨⟨rfl,c2,h10⟩,hal,h0,h1,h2,h7,h8,h9,h11,h12,h13⟩
  obtain⟨T4,hT4⟩:∃T4,T4=V3++[Ob.row 6 [[f0,f1,f2,f3,f4,f5]]]:=⟨_,rfl⟩
  have k4:KeepN 1 W T4:=k2.trans (by rw[hT4];exact KeepN.push)
  have v4:=k4 _ _ _ (by decide) g0
  refine wc_scut (fun a V4=>V4=T4∧a.length=135∧a[0]? =some (.sl 6 (l.map Flt.enc) lx)∧a[1]? =some (.sl 9 (w.map Shr.enc) wx)∧a[2]? =some (.int .i64 i)∧a[7]? =some (.nils)∧a[8]? =some (.loc 0 0 0)∧a[9]? =some (.bool c1)∧a[10]? =some (.bool c2)∧a[11]? =some (.bool b3)∧a[12]? =some (.sl 1 (dl.map encI) yd)∧a[13]? =some (.int .i64 k)∧a[17]? =some (.bool s2)) ?_ ?_
  ·simp(maxSteps:=1000000)(disch:=omega)only[push_cast,hal,h0,h1,h2,h7,h8,h9,h10,h11,h12,h13,v1,hz,co2,w0,w1,w2,w3,w4,w5,encI,set_end,get_end,↓WX,simprocAttr]
   exact hT4.symm
  clear hal h0 h1 h2 h7 h8 h9 h10 h11 h12 h13 a
  clear hT4
  rintro a V4 ⟨rfl,hal,h0,h1,h2,h7,h8,h9,h10,h11,h12,h13,h17⟩
  refine wc_scut (fun a V5=>(V5=V4∧∃b,a[11]? =some (.bool b))∧a.length=135∧a[0]? =some (.sl 6 (l.map Flt.enc) lx)∧a[1]? =some (.sl 9 (w.map Shr.enc) wx)∧a[2]? =some (.int .i64 i)∧a[7]? =some (.nils)∧a[8]? =some (.loc 0 0 0)∧a[9]? =some (.bool c1)∧a[10]? =some (.bool c2)∧a[12]? =some (.sl 1 (dl.map encI) yd)∧a[13]? =some (.int .i64 k)) ?_ ?_
  ·cases b3
   ·simp(maxSteps:=1000000)(disch:=omega)only[push_cast,hal,h0,h1,h2,h7,h8,h9,h10,h11,h12,h13,h17,↓WX,simprocAttr]
    exact⟨_,rfl⟩
   ·simp(maxSteps:=1000000)(disch:=omega)only[push_cast,hal,h0,h1,h2,h7,h8,h9,h10,h11,h12,h13,↓WX,simprocAttr]
    exact⟨_,rfl⟩
  clear hal h0 h1 h2 h7 h8 h9 h10 h11 h12 h13 h17 a
  rintro a V5 ⟨⟨rfl,c3,h11⟩,hal,h0,h1,h2,h7,h8,h9,h10,h12,h13⟩
  simp(maxSteps:=1000000)(disch:=omega)only[push_cast,↓WX,simprocAttr]
  refine wl_loop (fun j a T=>(KeepN 1 W T∧∃b,a[11]? =some (.bool b))∧a.length=135∧a[0]? =some (.sl 6 (l.map Flt.enc) lx)∧a[1]? =some (.sl 9 (w.map Shr.enc) wx)∧a[2]? =some (.int .i64 i)∧a[7]? =some (.nils)∧a[8]? =some (.loc 0 0 0)∧a[9]? =some (.bool c1)∧a[10]? =some (.bool c2)∧a[12]? =some (.sl 1 (dl.map encI) yd)∧a[13]? =some (.int .i64 k)∧a[18]? =some (.int .i64 j)) i ?_ (by omega) ?_
  ·simp(maxSteps:=1000000)(disch:=omega)only[push_cast,hal,h0,h1,h2,h7,h8,h9,h10,h11,h12,h13,Int.natCast_zero,simprocAttr]
   exact⟨k4,_,rfl⟩
  clear hal h0 h1 h2 h7 h8 h9 h10 h11 h12 h13 a
  clear v0 v1 v4 k1 k2 k4 x1
  rintro j a T hj ⟨⟨k5,c,h11⟩,hal,h0,h1,h2,h7,h8,h9,h10,h12,h13,h18⟩
  have v5:=k5 _ _ _ (by decide) g0
  rcases Nat.lt_or_eq_of_le hj with hjt |rfl
  case inr=>
   simp(maxSteps:=1000000)(disch:=omega)only[push_cast,hal,h0,h1,h2,h7,h8,h9,h10,h11,h12,h13,h18,hkt,Int.lt_irrefl,wrap_ok,Int.natCast_add,Int.natCast_one,↓WX,simprocAttr]
   exact⟨k5,_,_,_,rfl,rfl,rfl⟩
  obtain⟨y,hy⟩:∃y,w[j]? =some y:=⟨w[j]'(by omega),by simp⟩
  have hyb:=hsb y (List.mem_of_getElem? hy)
  have hjtc:(j:Int)<i:=by omega
  have hjl:j<w.length:=by omega
  obtain⟨ec,-,cch⟩:=r04Check_c (n:=n) (by omega) y.pf y.pt y.pd hyb.pf hyb.pt
  obtain⟨bh,cha⟩:=Has04_c (n:=n) (by omega) y.pf y.pt y.pd hyb.pf hyb.pt z
  obtain⟨T6,hT6⟩:∃T6,T6=T++[Ob.row 9 [[.str y.car,.int .i64 y.num,.int .i64 y.pf,.int .i64 y.pt,.int .i64 y.pd,.str y.opr,.int .i64 y.nas,.str y.frm,.str y.dst]]]:=⟨_,rfl⟩
  have x6:T6[T.length]? =some (.row 9 [[.str y.car,.int .i64 y.num,.int .i64 y.pf,.int .i64 y.pt,.int .i64 y.pd,.str y.opr,.int .i64 y.nas,.str y.frm,.str y.dst]]):=by rw[hT6];exact get_end
  have k6:KeepN 1 W T6:=k5.trans (by rw[hT6];exact KeepN.push)
  have v6:=k6 _ _ _ (by decide) g0
  refine wc_scut (fun a V=>V=T∧a.length=135∧a[0]? =some (.sl 6 (l.map Flt.enc) lx)∧a[1]? =some (.sl 9 (w.map Shr.enc) wx)∧a[2]? =some (.int .i64 i)∧a[7]? =some (.nils)∧a[8]? =some (.loc 0 0 0)∧a[9]? =some (.bool c1)∧a[10]? =some (.bool c2)∧a[11]? =some (.bool c)∧a[12]? =some (.sl 1 (dl.map encI) yd)∧a[13]? =some (.int .i64 k)∧a[18]? =some (.int .i64 j)) ?_ ?_
  ·simp(maxSteps:=1000000)(disch:=omega)only[push_cast,hal,h0,h1,h2,h7,h8,h9,h10,h11,h12,h13,h18,hjtc,↓WX,simprocAttr]
  clear hal h0 h1 h2 h7 h8 h9 h10 h11 h12 h13 h18 a
  rintro a V ⟨rfl,hal,h0,h1,h2,h7,h8,h9,h10,h11,h12,h13,h18⟩
  rw[wc_seq,wc_block]
  refine wc_scut (fun a V'=>V'=T6∧a.length=135∧a[0]? =some (.sl 6 (l.map Flt.enc) lx)∧a[1]? =some (.sl 9 (w.map Shr.enc) wx)∧a[2]? =some (.int .i64 i)∧a[7]? =some (.nils)∧a[8]? =some (.loc 0 0 0)∧a[9]? =some (.bool c1)∧a[10]? =some (.bool c2)∧a[11]? =some (.bool c)∧a[12]? =some (.sl 1 (dl.map encI) yd)∧a[13]? =some (.int .i64 k)∧a[18]? =some (.int .i64 j)∧a[19]? =some (.loc V.length 0 0)) ?_ ?_
  ·simp(maxSteps:=1000000)(disch:=omega)only[push_cast,hal,h0,h1,h2,h7,h8,h9,h10,h11,h12,h13,h18,hy,Shr.enc,set_end,get_end,↓WX,simprocAttr]
   exact hT6.symm
  clear hal h0 h1 h2 h7 h8 h9 h10 h11 h12 h13 h18 a
  clear hT6
  rintro a V' ⟨rfl,hal,h0,h1,h2,h7,h8,h9,h10,h11,h12,h13,h18,h19⟩
  refine wc_scut (fun a V2=>(V2=V'∧∃b,a[20]? =some (.bool b))∧a.length=135∧a[0]? =some (.sl 6 (l.map Flt.enc) lx)∧a[1]? =some (.sl 9 (w.map Shr.enc) wx)∧a[2]? =some (.int .i64 i)∧a[7]? =some (.nils)∧a[8]? =some (.loc 0 0 0)∧a[9]? =some (.bool c1)∧a[10]? =some (.bool c2)∧a[11]? =some (.bool c)∧a[12]? =some (.sl 1 (dl.map encI) yd)∧a[13]? =some (.int .i64 k)∧a[18]? =some (.int .i64 j)∧a[19]? =some (.loc V.length 0 0)) ?_ ?_
  ·by_cases q1:y.car=x.car
   case neg=>
    simp(maxSteps:=1000000)(disch:=omega)only[push_cast,hal,h0,h1,h2,h7,h8,h9,h10,h11,h12,h13,h18,h19,x6,v6,q1,str_eq,decide_false,↓WX,simprocAttr]
    exact⟨_,rfl⟩
   by_cases q2:y.num=x.num
   case neg=>
    simp(maxSteps:=1000000)(disch:=omega)only[push_cast,hal,h0,h1,h2,h7,h8,h9,h10,h11,h12,h13,h18,h19,x6,v6,q1,q2,str_eq,decide_true,decide_false,↓WX,simprocAttr]
    exact⟨_,rfl⟩
   simp(maxSteps:=1000000)(disch:=omega)only[push_cast,hal,h0,h1,h2,h7,h8,h9,h10,h11,h12,h13,h18,h19,x6,v6,q1,q2,cch,str_eq,decide_true,↓WX,simprocAttr]
   exact⟨_,rfl⟩
  clear hal h0 h1 h2 h7 h8 h9 h10 h11 h12 h13 h18 h19 a
  rintro a V2 ⟨⟨rfl,c4,h20⟩,hal,h0,h1,h2,h7,h8,h9,h10,h11,h12,h13,h18,h19⟩
  cases c
  case true=>
   simp(maxSteps:=1000000)(disch:=omega)only[push_cast,hal,h0,h1,h2,h7,h8,h9,h10,h11,h12,h13,h18,hjt,wrap_ok,Int.natCast_add,Int.natCast_one,↓WX,simprocAttr]
   exact⟨k6,_,rfl⟩
  cases c4
  case false=>
   simp(maxSteps:=1000000)(disch:=omega)only[push_cast,hal,h0,h1,h2,h7,h8,h9,h10,h11,h12,h13,h18,h20,hjt,wrap_ok,Int.natCast_add,Int.natCast_one,↓WX,simprocAttr]
   exact⟨k6,_,rfl⟩
  simp(maxSteps:=1000000)(disch:=omega)only[push_cast,hal,h0,h1,h2,h7,h8,h9,h10,h11,h12,h13,h18,h19,h20,x6,hz,cha,hjt,encI,wrap_ok,Int.natCast_add,Int.natCast_one,↓WX,simprocAttr]
  exact⟨k6,_,rfl⟩
 clear hal h0 h1 h2 h7 h8 h9 h10 h11 h12 a
 rintro a T ⟨⟨b1,b2,b3,h9,h10,h11⟩,hal,h7⟩
 refine wc_scut (fun a V=>ES V a[7]? 1∧a.length=135∧a[10]? =some (.bool b2)∧a[11]? =some (.bool b3)) ?_ ?_
 ·obtain⟨d1,T1,es1,p1,g1,l1,k1⟩:=app_e (T:=T) (d:=.nils) (es:=[]) GL.nil (by simp) 7
  cases b1
  ·simp(maxSteps:=1000000)(disch:=omega)only[push_cast,hal,h7,h9,h10,h11,ES,↓WX,simprocAttr]
   exact⟨_,[],rfl,GL.nil,by simp⟩
  ·simp(maxSteps:=1000000)(disch:=omega)only[push_cast,hal,h7,h9,h10,h11,p1,ES,↓WX,simprocAttr]
   exact⟨_,_,rfl,g1,by simpa using l1⟩
 clear hal h7 h9 h10 h11 a
 rintro a V1 ⟨⟨d1,es1,h7,g1,l1⟩,hal,h10,h11⟩
 refine wc_scut (fun a V=>ES V a[7]? 2∧a.length=135∧a[11]? =some (.bool b3)) ?_ ?_
 ·obtain⟨d2,T2,es2,p2,g2,l2,k2⟩:=app_e g1 (by omega) 15
  cases b2
  ·simp(maxSteps:=1000000)(disch:=omega)only[push_cast,hal,h7,h10,h11,ES,↓WX,simprocAttr]
   exact⟨_,_,rfl,g1,by omega⟩
  ·simp(maxSteps:=1000000)(disch:=omega)only[push_cast,hal,h7,h10,h11,p2,ES,↓WX,simprocAttr]
   exact⟨_,_,rfl,g2,by omega⟩
 clear hal h7 h10 h11 a
 rintro a V2 ⟨⟨d2,es2,h7,g2,l2⟩,hal,h11⟩
 obtain⟨d3,T3,es3,p3,g3,l3,k3⟩:=app_e g2 (by omega) 6
 cases b3
 ·simp(maxSteps:=1000000)(disch:=omega)only[push_cast,hal,h7,h11,Tryz.f90,↓WX,simprocAttr]
  exact⟨_,g2,by omega⟩
 ·simp(maxSteps:=1000000)(disch:=omega)only[push_cast,hal,h7,h11,p3,Tryz.f90,↓WX,simprocAttr]
  exact⟨_,g3,by omega⟩
theorem days09_c (hn:1048701≤n) {l:List Flt} {lx:Bool} (hl:l.length≤100) (hf:∀f∈l,FltB f) {w:List Shr} {wx:Bool} (hw:w.length≤100) (hsb:∀x∈w,ShrB x) {i:Nat} (hi:i<w.length):
  ∃d es,FLs 1 encI d es∧es.length≤3∧∀st S,callD E (dcall E n) st S 90 [.sl 6 (l.map Flt.enc) lx,.sl 9 (w.map Shr.enc) wx,.int .i64 i]=some (d,S):=by
 obtain⟨m,rfl⟩:∃m,n=m+1:=⟨n-1,by omega⟩
 have hp:pureL [.sl 6 (l.map Flt.enc) lx,.sl 9 (w.map Shr.enc) wx,.int .i64 i]=true:=by simp only[pureL_cons,pureL_nil,D.pure,Flts_pure,Shrs_pure,Bool.and_self]
 obtain⟨d,T,ho,es,g,h⟩:=days09_d (n:=m) (lx:=lx) (wx:=wx) (by omega) hl hf hw hsb hi
 obtain⟨d',hd,hf'⟩:=g.fls (encI_pure es)
 exact⟨d',es,hf',h,fun st S=>callD_pure rfl hp ho hd⟩
set_option maxHeartbeats 16000000 in
set_option maxRecDepth 100000 in
theorem share09_d (hn:1048800≤n) {l:List Flt} {lx:Bool} (hl:l.length≤100) (hf:∀f∈l,FltB f) {w:List Shr} {wx:Bool} (hw:w.length≤100) (hsb:∀x∈w,ShrB x) {i:Nat} (hi:i<w.length):
  WO (dcall E (n+1) 36 [.sl 6 (l.map Flt.enc) lx,.sl 9 (w.map Shr.enc) wx,.int .i64 i] []) fun d T=>∃es,GL 1 encI T d es∧es.length≤7:=by
 obtain⟨dd,el,hdd,hdl,cdd⟩:=days09_c (n:=n) (lx:=lx) (wx:=wx) (by omega) hl hf hw hsb hi
 obtain⟨x,hx⟩:∃x,w[i]? =some x:=⟨w[i],by simp⟩
 have hxb:=hsb x (List.mem_of_getElem? hx)
 obtain⟨e0,-,cch⟩:=r04Check_c (n:=n) (by omega) x.pf x.pt x.pd hxb.pf hxb.pt
 have ca1:=fun st S=>rCarrier_c (n:=n) (s:=x.car) (by have:=hxb.car;omega) (by have:=hxb.car;omega) st S
 have ca2:=fun st S=>rCarrier_c (n:=n) (s:=x.opr) (by have:=hxb.opr;omega) (by have:=hxb.opr;omega) st S
 generalize carS x.car=b1 at*
 generalize carS x.opr=b2 at*
 refine wo_dcall Tryz.func36 rfl (by decide) rfl 71 rfl (fun a hal ha=>?_)
 have h0:a[0]? =some (.sl 6 (l.map Flt.enc) lx):=ha 0 (by simp)
 have h1:a[1]? =some (.sl 9 (w.map Shr.enc) wx):=ha 1 (by simp)
 have h2:a[2]? =some (.int .i64 i):=ha 2 (by simp)
 clear ha
 obtain⟨S0,hS0⟩:∃S0,S0=[Ob.row 9 [[.str x.car,.int .i64 x.num,.int .i64 x.pf,.int .i64 x.pt,.int .i64 x.pd,.str x.opr,.int .i64 x.nas,.str x.frm,.str x.dst]]]:=⟨_,rfl⟩
 have g0:S0[0]? =some (.row 9 [[.str x.car,.int .i64 x.num,.int .i64 x.pf,.int .i64 x.pt,.int .i64 x.pd,.str x.opr,.int .i64 x.nas,.str x.frm,.str x.dst]]):=by rw[hS0];rfl
 rw[wc_asc]
 refine wc_scut (fun a V=>V=([]:List Ob)∧a.length=71∧a[0]? =some (.sl 6 (l.map Flt.enc) lx)∧a[1]? =some (.sl 9 (w.map Shr.enc) wx)∧a[2]? =some (.int .i64 i)∧a[7]? =some (.nils)) ?_ ?_
 ·simp(maxSteps:=1000000)(disch:=omega)only[push_cast,hal,h0,h1,h2,↓WX,simprocAttr]
 clear hal h0 h1 h2 a
 rintro a V ⟨rfl,hal,h0,h1,h2,h7⟩
 refine wc_scut (fun a V=>V=S0∧a.length=71∧a[0]? =some (.sl 6 (l.map Flt.enc) lx)∧a[1]? =some (.sl 9 (w.map Shr.enc) wx)∧a[2]? =some (.int .i64 i)∧a[7]? =some (.nils)∧a[8]? =some (.loc 0 0 0)) ?_ ?_
 ·simp(maxSteps:=1000000)(disch:=omega)only[push_cast,hal,h0,h1,h2,h7,hx,Shr.enc,↓WX,simprocAttr]
  exact hS0.symm
 clear hal h0 h1 h2 h7 a
 rintro a W ⟨rfl,hal,h0,h1,h2,h7,h8⟩
 refine wc_scut (fun a V'=>(KeepI W V'∧ES V' a[7]? 1)∧a.length=71∧a[0]? =some (.sl 6 (l.map Flt.enc) lx)∧a[1]? =some (.sl 9 (w.map Shr.enc) wx)∧a[2]? =some (.int .i64 i)∧a[8]? =some (.loc 0 0 0)) ?_ ?_
 ·obtain⟨d1,T1,es1,p1,g1,l1,k1⟩:=app_e (T:=W) (d:=.nils) (es:=[]) GL.nil (by simp) 5
  cases b1
  ·simp(maxSteps:=1000000)(disch:=omega)only[push_cast,hal,h0,h1,h2,h7,h8,g0,ca1,p1,dUn,Bool.not_false,ES,↓WX,simprocAttr]
   exact⟨k1,_,_,rfl,g1,by simpa using l1⟩
  cases b2
  ·simp(maxSteps:=1000000)(disch:=omega)only[push_cast,hal,h0,h1,h2,h7,h8,g0,ca1,ca2,p1,dUn,Bool.not_false,Bool.not_true,ES,↓WX,simprocAttr]
   exact⟨k1,_,_,rfl,g1,by simpa using l1⟩
  simp(maxSteps:=1000000)(disch:=omega)only[push_cast,hal,h0,h1,h2,h7,h8,g0,ca1,ca2,dUn,Bool.not_true,ES,↓WX,simprocAttr]
  exact⟨KeepI.refl,_,[],rfl,GL.nil,by simp⟩
 clear hal h0 h1 h2 h7 h8 a
 rintro a V1 ⟨⟨k1,d1,es1,h7,g1,l1⟩,hal,h0,h1,h2,h8⟩
 have v1:=k1 _ _ _ (by decide) g0
 refine wc_scut (fun a V'=>(KeepI V1 V'∧ES V' a[7]? 2)∧a.length=71∧a[0]? =some (.sl 6 (l.map Flt.enc) lx)∧a[1]? =some (.sl 9 (w.map Shr.enc) wx)∧a[2]? =some (.int .i64 i)∧a[8]? =some (.loc 0 0 0)) ?_ ?_
 ·obtain⟨d2,T2,es2,p2,g2,l2,k2⟩:=app_e g1 (by omega) 2
  by_cases q1:x.num<1
  ·simp(maxSteps:=1000000)(disch:=omega)only[push_cast,hal,h0,h1,h2,h7,h8,v1,q1,p2,ES,↓WX,simprocAttr]
   exact⟨k2,_,_,rfl,g2,by omega⟩
  by_cases q2:9999<x.num
  ·simp(maxSteps:=1000000)(disch:=omega)only[push_cast,gt_iff_lt,hal,h0,h1,h2,h7,h8,v1,q1,q2,p2,ES,↓WX,simprocAttr]
   exact⟨k2,_,_,rfl,g2,by omega⟩
  by_cases q3:x.nas<1
  ·simp(maxSteps:=1000000)(disch:=omega)only[push_cast,gt_iff_lt,hal,h0,h1,h2,h7,h8,v1,q1,q2,q3,p2,ES,↓WX,simprocAttr]
   exact⟨k2,_,_,rfl,g2,by omega⟩
  by_cases q4:9999<x.nas
  ·simp(maxSteps:=1000000)(disch:=omega)only[push_cast,gt_iff_lt,hal,h0,h1,h2,h7,h8,v1,q1,q2,q3,q4,p2,ES,↓WX,simprocAttr]
   exact⟨k2,_,_,rfl,g2,by omega⟩
  simp(maxSteps:=1000000)(disch:=omega)only[push_cast,gt_iff_lt,hal,h0,h1,h2,h7,h8,v1,q1,q2,q3,q4,ES,↓WX,simprocAttr]
  exact⟨KeepI.refl,_,_,rfl,g1,by omega⟩
 clear hal h0 h1 h2 h7 h8 a
 rintro a V2 ⟨⟨k2,d2,es2,h7,g2,l2⟩,hal,h0,h1,h2,h8⟩
 have v2:=k2 _ _ _ (by decide) v1
 refine wc_scut (fun a V'=>(KeepI V2 V'∧ES V' a[7]? 3)∧a.length=71∧a[0]? =some (.sl 6 (l.map Flt.enc) lx)∧a[1]? =some (.sl 9 (w.map Shr.enc) wx)∧a[2]? =some (.int .i64 i)∧a[8]? =some (.loc 0 0 0)) ?_ ?_
 ·obtain⟨d3,T3,es3,p3,g3,l3,k3⟩:=app_e g2 (by omega) 8
  by_cases q1:x.car=x.opr
  ·simp(maxSteps:=1000000)(disch:=omega)only[push_cast,hal,h0,h1,h2,h7,h8,v2,q1,str_eq,p3,ES,↓WX,simprocAttr]
   exact⟨k3,_,_,rfl,g3,by omega⟩
  simp(maxSteps:=1000000)(disch:=omega)only[push_cast,hal,h0,h1,h2,h7,h8,v2,q1,str_eq,ES,↓WX,simprocAttr]
  exact⟨KeepI.refl,_,_,rfl,g2,by omega⟩
 clear hal h0 h1 h2 h7 h8 a
 rintro a V3 ⟨⟨k3,d3,es3,h7,g3,l3⟩,hal,h0,h1,h2,h8⟩
 have v3:=k3 _ _ _ (by decide) v2
 refine wc_scut (fun a V'=>V'=V3∧a.length=71∧a[0]? =some (.sl 6 (l.map Flt.enc) lx)∧a[1]? =some (.sl 9 (w.map Shr.enc) wx)∧a[2]? =some (.int .i64 i)∧a[7]? =some (d3)∧a[9]? =some (.int .i64 e0)) ?_ ?_
 ·simp(maxSteps:=1000000)(disch:=omega)only[push_cast,hal,h0,h1,h2,h7,h8,v3,cch,↓WX,simprocAttr]
 clear hal h0 h1 h2 h7 h8 a
 rintro a V4 ⟨rfl,hal,h0,h1,h2,h7,h9⟩
 by_cases q:e0=0
 case neg=>
  obtain⟨d4,T4,es4,p4,g4,l4,k4⟩:=app_e g3 (by omega) e0
  simp(maxSteps:=1000000)(disch:=omega)only[push_cast,not_false_eq_true,hal,h7,h9,q,p4,Tryz.f36,↓WX,simprocAttr]
  exact⟨_,g4,by omega⟩
 obtain⟨d4,T4,p4,g4,k4⟩:=app_es g3 hdd (by omega)
 simp(maxSteps:=1000000)(disch:=omega)only[push_cast,not_true_eq_false,hal,h0,h1,h2,h7,h9,q,cdd,p4,Tryz.f36,↓WX,simprocAttr]
 exact⟨_,g4,by simp;omega⟩
theorem share09_c (hn:1048801≤n) {l:List Flt} {lx:Bool} (hl:l.length≤100) (hf:∀f∈l,FltB f) {w:List Shr} {wx:Bool} (hw:w.length≤100) (hsb:∀x∈w,ShrB x) {i:Nat} (hi:i<w.length):
  ∃d es,FLs 1 encI d es∧es.length≤7∧∀st S,callD E (dcall E n) st S 36 [.sl 6 (l.map Flt.enc) lx,.sl 9 (w.map Shr.enc) wx,.int .i64 i]=some (d,S):=by
 obtain⟨m,rfl⟩:∃m,n=m+1:=⟨n-1,by omega⟩
 have hp:pureL [.sl 6 (l.map Flt.enc) lx,.sl 9 (w.map Shr.enc) wx,.int .i64 i]=true:=by simp only[pureL_cons,pureL_nil,D.pure,Flts_pure,Shrs_pure,Bool.and_self]
 obtain⟨d,T,ho,es,g,h⟩:=share09_d (n:=m) (lx:=lx) (wx:=wx) (by omega) hl hf hw hsb hi
 obtain⟨d',hd,hf'⟩:=g.fls (encI_pure es)
 exact⟨d',es,hf',h,fun st S=>callD_pure rfl hp ho hd⟩
set_option maxHeartbeats 8000000 in
set_option maxRecDepth 100000 in
theorem Check09_d (hn:1048900≤n) {p:Plc} {l:List Flt} {lx:Bool} (hl:l.length≤100) (hf:∀f∈l,FltB f) {w:List Shr} {wx:Bool} (hw:w.length≤100) (hsb:∀x∈w,ShrB x):
  WO (dcall E (n+1) 14 [.agg p.enc,.sl 6 (l.map Flt.enc) lx,.sl 9 (w.map Shr.enc) wx] []) fun d T=>∃fs,GL 2 encF T d fs∧fs.length≤1000∧∀f∈fs,f.2.size≤30:=by
 have cs:=fun i h=>share09_c (n:=n) (lx:=lx) (wx:=wx) (by omega) hl hf hw hsb (i:=i) h
 simp only[Plc.enc]
 generalize p.aps.map Apt.enc=ae at*
 generalize p.dts.map Dst.enc=de at*
 generalize l.map Flt.enc=le at*
 have hwl:(w.map Shr.enc).length=w.length:=by simp
 generalize w.map Shr.enc=we at*
 refine wo_dcall Tryz.func14 rfl (by decide) rfl 39 rfl (fun a hal ha=>?_)
 have h0:a[0]? =some (.agg [.sl 5 ae p.apsx,.sl 3 de p.dtsx]):=ha 0 (by simp)
 have h1:a[1]? =some (.sl 6 le lx):=ha 1 (by simp)
 have h2:a[2]? =some (.sl 9 we wx):=ha 2 (by simp)
 clear ha
 have hst:sharT.size=6:=rfl
 simp(maxSteps:=1000000)(disch:=omega)only[push_cast,h0,↓WX,simprocAttr]
 refine wl_loop (fun i a T=>FS T a[7]? (7*i) 30∧a.length=39∧a[1]? =some (.sl 6 le lx)∧a[2]? =some (.sl 9 we wx)∧a[8]? =some (.int .i64 i)) w.length ?_ (by omega) ?_
 ·simp(maxSteps:=1000000)(disch:=omega)only[push_cast,hal,h1,h2,Int.natCast_zero,FS,simprocAttr]
  exact⟨_,[],rfl,GL.nil,by simp,fun f h=>by cases h⟩
 clear hal h0 h1 h2 a
 rintro i a T hi ⟨⟨d,fs,h7,g1,l1,z1⟩,hal,h1,h2,h8⟩
 rcases Nat.lt_or_eq_of_le hi with hlt |rfl
 case inr=>
  simp(maxSteps:=1000000)(disch:=omega)only[push_cast,hal,h2,h7,h8,hwl,Int.lt_irrefl,Tryz.f14,↓WX,simprocAttr]
  exact⟨_,g1,by omega,z1⟩
 have hltc:(i:Int)<w.length:=by omega
 obtain⟨q,hq,cq⟩:=Wb.rdecW (n:=n) (i:=i) (by omega) (by omega)
 have mq:=mx_of (a:=sharT) (b:=q) (by omega)
 have hat:(sharT++q).size≤30:=by rw[ba_len];omega
 obtain⟨de',es,hde,hel,csi⟩:=cs i hlt
 refine wc_scut (fun a V=>V=T∧a.length=39∧a[1]? =some (.sl 6 le lx)∧a[2]? =some (.sl 9 we wx)∧a[7]? =some (d)∧a[8]? =some (.int .i64 i)) ?_ ?_
 ·simp(maxSteps:=1000000)(disch:=omega)only[push_cast,hal,h1,h2,h7,h8,hwl,hltc,↓WX,simprocAttr]
 clear hal h1 h2 h7 h8 a
 rintro a V ⟨rfl,hal,h1,h2,h7,h8⟩
 rw[wc_seq,wc_block]
 refine wc_scut (fun a W=>W=V∧a.length=39∧a[1]? =some (.sl 6 le lx)∧a[2]? =some (.sl 9 we wx)∧a[7]? =some (d)∧a[8]? =some (.int .i64 i)∧a[9]? =some (de')) ?_ ?_
 ·simp(maxSteps:=1000000)(disch:=omega)only[push_cast,hal,h1,h2,h7,h8,csi,↓WX,simprocAttr]
 clear hal h1 h2 h7 h8 a
 rintro a W ⟨rfl,hal,h1,h2,h7,h8,h9⟩
 rcases hde with ⟨rfl,rfl⟩ | ⟨y,rfl⟩
 ·simp(maxSteps:=1000000)(disch:=omega)only[push_cast,↓WX,simprocAttr]
  refine wl_loop (fun k a T=>(k=0∧T=W)∧a.length=39∧a[1]? =some (.sl 6 le lx)∧a[2]? =some (.sl 9 we wx)∧a[7]? =some (d)∧a[8]? =some (.int .i64 i)∧a[9]? =some (.nils)∧a[10]? =some (.int .i64 0)) 0 ?_ (by omega) ?_
  ·simp(maxSteps:=1000000)(disch:=omega)only[push_cast,hal,h1,h2,h7,h8,h9,simprocAttr]
  clear hal h1 h2 h7 h8 h9 a
  rintro k a T hk ⟨⟨rfl,rfl⟩,hal,h1,h2,h7,h8,h9,h10⟩
  simp(maxSteps:=1000000)(disch:=omega)only[push_cast,hal,h1,h2,h7,h8,h9,h10,hlt,Int.lt_irrefl,wrap_ok,Int.natCast_add,Int.natCast_one,FS,↓WX,simprocAttr]
  exact⟨_,_,rfl,g1,by omega,z1⟩
 ·simp(maxSteps:=1000000)(disch:=omega)only[push_cast,↓WX,simprocAttr]
  refine wl_loop (fun k a T=>FS T a[7]? (7*i+k) 30∧a.length=39∧a[1]? =some (.sl 6 le lx)∧a[2]? =some (.sl 9 we wx)∧a[8]? =some (.int .i64 i)∧a[9]? =some (.sl 1 (es.map encI) y)∧a[10]? =some (.int .i64 k)) es.length ?_ (by omega) ?_
  ·simp(maxSteps:=1000000)(disch:=omega)only[push_cast,hal,h1,h2,h7,h8,h9,Int.natCast_zero,FS,simprocAttr]
   exact⟨_,_,rfl,g1,by omega,z1⟩
  clear hal h1 h2 h7 h8 h9 a
  rintro k a T hk ⟨⟨d2,fs2,h7,g2,l2,z2⟩,hal,h1,h2,h8,h9,h10⟩
  rcases Nat.lt_or_eq_of_le hk with hkt |rfl
  case inr=>
   simp(maxSteps:=1000000)(disch:=omega)only[push_cast,hal,h1,h2,h7,h8,h9,h10,hlt,Int.lt_irrefl,wrap_ok,Int.natCast_add,Int.natCast_one,FS,↓WX,simprocAttr]
   exact⟨_,_,rfl,g2,by omega,z2⟩
  obtain⟨u,hu⟩:∃u,es[k]? =some u:=⟨es[k],by simp⟩
  have hktc:(k:Int)<es.length:=by omega
  obtain⟨d3,T3,fs3,p3,g3,l3,z3,k3⟩:=app_t g2 (by omega) z2 u (sharT++q) hat
  unfold sharT at mq p3
  simp(maxSteps:=1000000)(disch:=omega)only[push_cast,gt_iff_lt,hal,h1,h2,h7,h8,h9,h10,hktc,hkt,hu,cq,mq,p3,encI,wrap_ok,Int.natCast_add,Int.natCast_one,FS,↓WX,simprocAttr]
  exact⟨_,_,rfl,g3,by omega,z3⟩
theorem Check09_c (hn:1048901≤n) {p:Plc} {l:List Flt} {lx:Bool} (hl:l.length≤100) (hf:∀f∈l,FltB f) {w:List Shr} {wx:Bool} (hw:w.length≤100) (hsb:∀x∈w,ShrB x):∃d,FR d 1000 30∧∀st S,callD E (dcall E n) st S 14 [.agg p.enc,.sl 6 (l.map Flt.enc) lx,.sl 9 (w.map Shr.enc) wx]=some (d,S):=by
 obtain⟨m,rfl⟩:∃m,n=m+1:=⟨n-1,by omega⟩
 obtain⟨d,T,ho,fs,hg,h1,h2⟩:=Check09_d (n:=m) (p:=p) (lx:=lx) (wx:=wx) (by omega) hl hf hw hsb
 obtain⟨d',f',hf'⟩:=GL_fz hg
 exact⟨d',⟨fs,hf',h1,h2⟩,fun st S=>callD_pure rfl (by simp only[pureL_cons,pureL_nil,D.pure,Plc_pure,Flts_pure,Shrs_pure,Bool.and_self]) ho f'⟩
end
end Go.Proofs.YtkemehicndccmaaGreatDoor.Dm
