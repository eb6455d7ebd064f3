/-
  What is known of a trip: the program, exactly.
-/
import Derived.Test.YtaklebjoenophaaGreatPrC
set_option maxHeartbeats 64000000
set_option maxRecDepth 100000
set_option linter.unusedSimpArgs false
set_option linter.unusedVariables false
namespace Go.Proofs.YtaklebjoenophaaGreat.Dm
open Go Gw
theorem PCities_c {n:Nat} (p:Plc) (hpa:p.aps.length<=1048576) (l:List Wnt) (lx:Bool) (hl:l.length<=1000) (hl0:l≠[]) (hn:1048600<=n):∃(cs:List ByteArray) (cx:Bool),cs=citF p l/\cs.length=l.length+1/\∀st S,Yi E (Yb E n) st S 58 [.agg p.enc,.sl 8 (l.map Wnt.enc) lx]=some (.sl 1 (cs.map Cnd.encT) cx,S):=by
 obtain⟨d,hf,hc⟩:=PCities_x (n:=n) p hpa l lx hl hn
 have hle:=citF_len p hl0
 rcases hf with ⟨rfl,e⟩ | ⟨cx,rfl⟩
 ·rw[e]at hle
  cases hle
 ·exact⟨_,cx,rfl,hle,hc⟩
def locP (o:Option Apt) (u:Int):Int:=IntKind.i64.wrap (u+ofsP u (zofs o) (zshs o))
def stpM:List Wnt->Nat
 |a::b::r=>(if stpP a.arr b.dep=true then 1 else 0)+stpM (b::r)
 |_=>0
theorem stpM_snoc (y x:Wnt):∀l:List Wnt,stpM (l++[y,x])=stpM (l++[y])+(if stpP y.arr x.dep=true then 1 else 0)
 | []=>by simp[stpM]
 | [a]=>by simp[stpM,Nat.add_comm]
 |a::b::r=>by
  have:=stpM_snoc y x (b::r)
  simp only[Uv,stpM]at this ⊢
  rw[this,Nat.add_assoc]
theorem stpM_take {l:List Wnt} {i:Nat} {x y:Wnt} (hy:l[i]?=some y) (hx:l[i+1]?=some x):stpM (l.take (i+1+1))=stpM (l.take (i+1))+(if stpP y.arr x.dep=true then 1 else 0):=by
 rw[List.take_add_one,hx,List.take_add_one,hy,Vg]
 exact stpM_snoc y x _
theorem stpM_le:∀l:List Wnt,stpM l<=l.length-1
 | []=>Uk _
 | [_]=>Uk _
 |a::b::r=>by
  have:=stpM_le (b::r)
  simp only[stpM,Uu]at this ⊢
  split <;> omega
def tripP (p:Plc) (l:List Wnt) (s:ByteArray) (sale:Int):Trp:=
 let w:=l.headD ⟨ByteArray.mk #[],0,0,ByteArray.mk #[],ByteArray.mk #[],0,0,ByteArray.mk #[]⟩
 let x:=locP (p.aps.find? λa=>a.code.toList == w.fr.toList) w.dep
 ⟨s,sale,dayF x,mntF x,(stpM l:Int),((l.length-1-stpM l:Nat):Int),l.map Wnt.car,l.map Wnt.num,((citF p l).drop 1).take ((citF p l).length-1-1)⟩
theorem GL.lt {α:Type} {sz:Nat} {enc:α->List D} {T:List Ob} {d:D} {l:List α} (h:GL sz enc T d l) (k n:Nat) (e:d=.os k 0 n false):k<T.length:=by
 rcases h with ⟨h,-⟩ | ⟨i,h,hi⟩
 ·rw[h]at e
  cases e
 ·rw[h]at e
  obtain⟨rfl,-⟩:=D.os.inj e
  exact (Kr.1 hi).1
theorem car_app {T:List Ob} {d6 d7:D} {cs:List ByteArray} {ns:List Int} {z:Nat} {r0:List (List D)} (h2:T[2]?=some (.row z r0)) (hz:z≠1) (h6:GL 1 Cnd.encT T d6 cs) (h7:GL 1 encZ T d7 ns) (ha:Apart d6 d7) (l6:cs.length<=1000) (c:ByteArray):
  ∃S1,Zb Tryz.prog T 67 67 d6 (.sl 1 [[.str c]] true)=some (.os T.length 0 (cs.length+1) false,S1)/\S1.length=T.length+1/\(∀(k sz:Nat) (es:List (List D)),sz≠1->T[k]?=some (.row sz es)->S1[k]?=some (.row sz es))/\(∀r,GL 1 Cnd.encT (S1.set 2 r) (.os T.length 0 (cs.length+1) false) (cs++[c])/\GL 1 encZ (S1.set 2 r) d7 ns)/\Apart (.os T.length 0 (cs.length+1) false) d7:=by
 obtain⟨S1,a1,a2,a3,a4,a5⟩:=app_gl (t:=67) (e:=9) (z:=.str (ByteArray.mk #[])) (n:=0) (by kernel_rfl) (by kernel_rfl) (by kernel_rfl) rfl (Nat.le_of_ble_eq_true (by kernel_rfl)) h6 (by omega) c
 have h7':GL 1 encZ S1 d7 ns:=h7.keep λk n hk o ho=>a4 k o (λn' h=>ha k n' k n h hk rfl) ho
 have f2:=a5 2 _ _ hz h2
 exact⟨S1,a1,a3,a5,λr=>⟨a2.sets f2 hz r,h7'.sets f2 hz r⟩,λk n k' n' h h' e=>by
  have:=(D.os.inj h).1
  have:=h7.lt k' n' h'
  omega⟩
theorem num_app {T:List Ob} {d6 d7:D} {cs:List ByteArray} {ns:List Int} {z:Nat} {r0:List (List D)} (h2:T[2]?=some (.row z r0)) (hz:z≠1) (h6:GL 1 Cnd.encT T d6 cs) (h7:GL 1 encZ T d7 ns) (ha:Apart d6 d7) (l7:ns.length<=1000) (v:Int):
  ∃S1,Zb Tryz.prog T 70 70 d7 (.sl 1 [[.int .i64 v]] true)=some (.os T.length 0 (ns.length+1) false,S1)/\S1.length=T.length+1/\(∀(k sz:Nat) (es:List (List D)),sz≠1->T[k]?=some (.row sz es)->S1[k]?=some (.row sz es))/\(∀r,GL 1 Cnd.encT (S1.set 2 r) d6 cs/\GL 1 encZ (S1.set 2 r) (.os T.length 0 (ns.length+1) false) (ns++[v]))/\Apart d6 (.os T.length 0 (ns.length+1) false):=by
 obtain⟨S1,a1,a2,a3,a4,a5⟩:=app_gl (t:=70) (e:=3) (z:=.int .i64 0) (n:=0) (by kernel_rfl) (by kernel_rfl) (by kernel_rfl) rfl (Nat.le_of_ble_eq_true (by kernel_rfl)) h7 (by omega) v
 have h6':GL 1 Cnd.encT S1 d6 cs:=h6.keep λk n hk o ho=>a4 k o (λn' h=>ha k n k n' hk h rfl) ho
 have f2:=a5 2 _ _ hz h2
 exact⟨S1,a1,a3,a5,λr=>⟨h6'.sets f2 hz r,a2.sets f2 hz r⟩,λk n k' n' h h' e=>by
  have:=(D.os.inj h').1
  have:=h6.lt k n h
  omega⟩
section
variable {n : Nat}
theorem PTrip_d (p:Plc) (hpa:p.aps.length<=1048576) (hsh:∀a∈p.aps,a.sh.length<=1048576) (l:List Wnt) (lx:Bool) (hl:l.length<=900) (hl0:l≠[]) (s:ByteArray) (sale:Int) (hn:1048600<=n):
  WO (Yb E (n+1) 64 [.agg p.enc,.sl 8 (l.map Wnt.enc) lx,.str s,.int .i64 sale] []) λr T=>∃d6 d7 dv,r=.agg ((tripP p l s sale).enc d6 d7 dv)/\GL 1 Cnd.encT T d6 (tripP p l s sale).cars/\GL 1 encZ T d7 (tripP p l s sale).nums/\FLs 1 Cnd.encT dv (tripP p l s sale).vias:=by
 obtain⟨cs,cx,hcf,hcl,hcs⟩:=PCities_c (n:=n) p hpa l lx (by omega) hl0 (by omega)
 obtain⟨w,hw⟩:∃w,l[0]?=some w:=⟨l[0]'(List.length_pos_iff.2 hl0),by simp⟩
 have hwd:∀d,l.headD d=w:=λd=>by
  cases l with
  |nil=>exact (hl0 rfl).elim
  |cons a t=>exact Kz hw
 have h0l:0<l.length:=List.length_pos_iff.2 hl0
 have h0lc:(0:Int)<l.length:=by omega
 have hfd:=λst S=>PFind_c (n:=n) (p:=p) (s:=w.fr) (by omega) (by omega) st S
 have hom:∀a,(p.aps.find? λa=>a.code.toList == w.fr.toList)=some a->a∈p.aps:=λa h=>List.mem_of_find?_eq_some h
 obtain⟨o,ho⟩:∃o,o=p.aps.find? λa=>a.code.toList == w.fr.toList:=⟨_,rfl⟩
 have htf:tripP p l s sale=⟨s,sale,dayF (locP o w.dep),mntF (locP o w.dep),(stpM l:Int),((l.length-1-stpM l:Nat):Int),l.map Wnt.car,l.map Wnt.num,(cs.drop 1).take (cs.length-1-1)⟩:=by
  unfold tripP
  simp only[hwd,<-ho,hcf]
 rw[<-ho]at hfd hom
 clear ho hcf
 have hzl:(zshs o).length<=1048576:=by
  cases o with
  |none=>exact Vt _
  |some a=>exact hsh a (hom a rfl)
 have hlo:=PLocal_x (n:=n) (by omega) (zofs o) (zsh_fls o) hzl w.dep
 have hsp:=Psplit_x (n:=n) (by omega) (locP o w.dep)
 rw[show IntKind.i64.wrap (w.dep+ofsP w.dep (zofs o) (zshs o))=locP o w.dep from rfl]at hlo
 rw[htf]
 generalize locP o w.dep=lo at*
 generalize dayF lo=dy at*
 generalize mntF lo=mt at*
 clear htf
 have hlz:decide ((l.length:Int)=0)=false:=Ud (by omega)
 simp only[Plc.enc]at hfd hcs ⊢
 obtain⟨P0,hP0⟩:∃P0:List D,P0=[.sl 5 (p.aps.map Apt.enc) p.apsx,.sl 3 (p.dts.map Dst.enc) p.dtsx]:=⟨_,rfl⟩
 refine Ye Tryz.func64 rfl (by decide) rfl 101 rfl (λa hal ha=>?_)
 obtain⟨h0,h1,h2,h3⟩:=aQ4 ha
 clear ha
 obtain⟨Z0,hZ0⟩:∃Z0:Ob,Z0=Ob.row 9 [[.str (ByteArray.mk #[]),.int .i64 0,.int .i64 0,.int .i64 0,.int .i64 0,.int .i64 0,.nils,.nils,.nils]]:=⟨_,rfl⟩
 refine Ya (λa V=>V=[Ob.row 2 [P0],Z0]/\gQ a 101 (a[8]?=some (.loc 1 0 0)) [(1,.sl 8 (l.map Wnt.enc) lx),(2,.str s),(3,.int .i64 sale),(4,.loc 0 0 0)]) ?_ ?_
 ·simp only[push_cast,hal,h0,h1,h2,h3,↓WX,simprocAttr]
  rw[hP0,hZ0]
 rintro a V ⟨rfl,hal,h1,h2,h3,h4,h8⟩
 refine Ya (λa V=>V=[Ob.row 2 [P0],Z0,Ob.row 9 [[.str s,.int .i64 sale,.int .i64 0,.int .i64 0,.int .i64 0,.int .i64 0,.nils,.nils,.nils]]]/\gQ a 101 (a[9]?=some (.loc 2 0 0)) [(1,.sl 8 (l.map Wnt.enc) lx),(4,.loc 0 0 0),(8,.loc 1 0 0)]) ?_ ?_
 ·simp only[push_cast,hal,h1,h2,h3,h4,h8,↓WX,simprocAttr]
 rintro a V ⟨rfl,hal,h1,h4,h8,h9⟩
 refine Ya (λa V=>V=[Ob.row 2 [P0],Z0,Ob.row 9 [[.str s,.int .i64 sale,.int .i64 0,.int .i64 0,.int .i64 0,.int .i64 0,.nils,.nils,.nils]]]/\gQ a 101 (a[9]?=some (.loc 2 0 0)) [(1,.sl 8 (l.map Wnt.enc) lx),(4,.loc 0 0 0),(8,.loc 1 0 0)]) ?_ ?_
 ·simp only[push_cast,hal,h1,h4,h8,h9,hlz,↓WX,simprocAttr]
 rintro a V ⟨rfl,hal,h1,h4,h8,h9⟩
 refine Ya (λa V=>(∃ac,V=[Ob.row 2 [P0],Z0,Ob.row 9 [[.str s,.int .i64 sale,.int .i64 0,.int .i64 0,.int .i64 0,.int .i64 0,.nils,.nils,.nils]],Ob.row 5 [ac]]/\∃a b c,ac=[a,b,c,.int .i64 (zofs o),zshD o])/\gQ a 101 (a[10]?=some (.loc 3 0 0)) [(1,.sl 8 (l.map Wnt.enc) lx),(4,.loc 0 0 0),(8,.loc 1 0 0),(9,.loc 2 0 0)]) ?_ ?_
 ·subst hP0
  cases o with
  |none=>
   simp only[Xy,zeroApt]at hfd
   simp only[push_cast,hal,h1,h4,h8,h9,hw,hfd,Wnt.enc,↓WX,simprocAttr]
   exact⟨_,rfl,_,_,_,rfl⟩
  |some a=>
   simp only[Xy,Apt.enc]at hfd
   simp only[push_cast,hal,h1,h4,h8,h9,hw,hfd,Wnt.enc,↓WX,simprocAttr]
   exact⟨_,rfl,_,_,_,rfl⟩
 rintro a V ⟨⟨_,rfl,a0,b0,c0,rfl⟩,hal,h1,h4,h8,h9,h10⟩
 clear hfd hom
 refine Ya (λa V=>V=[Ob.row 2 [P0],Z0,Ob.row 9 [[.str s,.int .i64 sale,.int .i64 dy,.int .i64 mt,.int .i64 0,.int .i64 0,.nils,.nils,.nils]],Ob.row 5 [[a0,b0,c0,.int .i64 (zofs o),zshD o]]]/\gQ a 101 (a[9]?=some (.loc 2 0 0)) [(1,.sl 8 (l.map Wnt.enc) lx),(4,.loc 0 0 0),(8,.loc 1 0 0)]) ?_ ?_
 ·simp only[push_cast,hal,h1,h4,h8,h9,h10,hw,hlo,hsp,Wnt.enc,↓WX,simprocAttr]
 rintro a V ⟨hV,hal,h1,h4,h8,h9⟩
 refine Ya (λa T=>(∃d6 d7,T[0]?=some (Ob.row 2 [P0])/\T[1]?=some Z0/\T[2]?=some (Ob.row 9 [[.str s,.int .i64 sale,.int .i64 dy,.int .i64 mt,.int .i64 (stpM l),.int .i64 ((l.length-1-stpM l:Nat):Int),d6,d7,.nils]])/\GL 1 Cnd.encT T d6 (l.map Wnt.car)/\GL 1 encZ T d7 (l.map Wnt.num))/\gQ a 101 (a[9]?=some (.loc 2 0 0)) [(1,.sl 8 (l.map Wnt.enc) lx),(4,.loc 0 0 0),(8,.loc 1 0 0)]) ?_ ?_
 ·simp only[push_cast,hal,h1,↓WX,simprocAttr]
  refine Yk (λi a T=>(∃d6 d7 sn tn,T[0]?=some (Ob.row 2 [P0])/\T[1]?=some Z0/\T[2]?=some (Ob.row 9 [[.str s,.int .i64 sale,.int .i64 dy,.int .i64 mt,.int .i64 sn,.int .i64 tn,d6,d7,.nils]])/\GL 1 Cnd.encT T d6 ((l.take i).map Wnt.car)/\GL 1 encZ T d7 ((l.take i).map Wnt.num)/\Apart d6 d7/\sn=(stpM (l.take i):Int)/\tn=((i-1-stpM (l.take i):Nat):Int))/\a.length=101/\a[1]?=some (.sl 8 (l.map Wnt.enc) lx)/\a[4]?=some (.loc 0 0 0)/\a[8]?=some (.loc 1 0 0)/\a[9]?=some (.loc 2 0 0)/\a[46]?=some (.sl 8 (l.map Wnt.enc) lx)/\a[47]?=some (.int .i64 l.length)/\a[48]?=some (.int .i64 i)) l.length ?_ (by omega) ?_
  ·simp only[push_cast,hal,h1,h4,h8,h9,simprocAttr,WY]
   rw[hV]
   exact⟨_,_,_,_,rfl,rfl,rfl,GL.nil,GL.nil,(λk n k' n' h=>by cases h),rfl,rfl⟩
  clear hV
  rintro i a T hi ⟨⟨d6,d7,sn,tn,g0,g1,g2,k6,k7,hap,hsn,htn⟩,hal,h1,h4,h8,h9,h46,h47,h48⟩
  rcases Kw hi with hlt |rfl
  case inr=>
   rw[Vi]at k6 k7 hsn htn
   simp only[push_cast,hal,h1,h4,h8,h9,h47,h48,↓WX,simprocAttr,WY]
   exact⟨_,_,g0,g1,by rw[g2,hsn,htn],k6,k7⟩
  have hltc:(i:Int)<l.length:=by omega
  obtain⟨x,hx⟩:∃x,l[i]?=some x:=⟨l[i],by simp⟩
  have hti:(l.take (i+1))=l.take i++[x]:=by rw[List.take_add_one,hx];rfl
  refine Ya (λa W=>W=T/\gQ a 101 (a[49]?=some (.bool true)) [(1,.sl 8 (l.map Wnt.enc) lx),(4,.loc 0 0 0),(8,.loc 1 0 0),(9,.loc 2 0 0),(46,.sl 8 (l.map Wnt.enc) lx),(47,.int .i64 l.length),(48,.int .i64 i)]) ?_ ?_
  ·simp only[push_cast,hal,h1,h4,h8,h9,h46,h47,h48,hltc,↓WX,simprocAttr]
  rintro a W ⟨rfl,hal,h1,h4,h8,h9,h46,h47,h48,h49⟩
  refine Ya (λa V=>V=W/\gQ a 101 (a[48]?=some (.int .i64 i)) [(1,.sl 8 (l.map Wnt.enc) lx),(4,.loc 0 0 0),(8,.loc 1 0 0),(9,.loc 2 0 0),(46,.sl 8 (l.map Wnt.enc) lx),(47,.int .i64 l.length)]) ?_ ?_
  ·simp only[push_cast,hal,h1,h4,h8,h9,h46,h47,h48,h49,↓WX]
  rintro a V ⟨rfl,hal,h1,h4,h8,h9,h46,h47,h48⟩
  rw[Zx,Yx]
  have hlen6:((l.take i).map Wnt.car).length=i:=by rw[Uq,Ve];omega
  have hlen7:((l.take i).map Wnt.num).length=i:=by rw[Uq,Ve];omega
  refine Ya (λa T=>(∃kx,a[13]?=some (.loc kx 0 0)/\T[kx]?=some (Ob.row 8 [[.str x.car,.int .i64 x.num,.int .i64 x.day,.str x.fr,.str x.to,.int .i64 x.dep,.int .i64 x.arr,.str x.cls]])/\T[0]?=some (Ob.row 2 [P0])/\T[1]?=some Z0/\T[2]?=some (Ob.row 9 [[.str s,.int .i64 sale,.int .i64 dy,.int .i64 mt,.int .i64 sn,.int .i64 tn,d6,d7,.nils]])/\GL 1 Cnd.encT T d6 ((l.take i).map Wnt.car)/\GL 1 encZ T d7 ((l.take i).map Wnt.num))/\gQ a 101 (a[12]?=some (.int .i64 i)) [(1,.sl 8 (l.map Wnt.enc) lx),(4,.loc 0 0 0),(8,.loc 1 0 0),(9,.loc 2 0 0),(46,.sl 8 (l.map Wnt.enc) lx),(47,.int .i64 l.length),(48,.int .i64 i)]) ?_ ?_
  ·simp only[push_cast,hal,h1,h4,h8,h9,h46,h47,h48,hx,Yl,Yq,Wnt.enc,↓WX,simprocAttr]
   exact⟨_,rfl,Yl,Ym g0,Ym g1,Ym g2,k6.keep λk n hk o ho=>Ym ho,k7.keep λk n hk o ho=>Ym ho⟩
  clear g0 g1 g2 k6 k7
  rintro a T ⟨⟨kx,h13,gx,g0,g1,g2,k6,k7⟩,hal,h1,h4,h8,h9,h46,h47,h48,h12⟩
  have hkx2:2≠kx:=λe=>by subst e;rw[g2]at gx;cases gx
  have hkf:(2=kx)=False:=eq_false hkx2
  have hc6:(l.take i).map Wnt.car++[x.car]=(l.take (i+1)).map Wnt.car:=by rw[hti,List.map_append];rfl
  have hc7:(l.take i).map Wnt.num++[x.num]=(l.take (i+1)).map Wnt.num:=by rw[hti,List.map_append];rfl
  rw[hZ0]at g1
  refine Ya (λa T=>(∃d6,T[kx]?=some (Ob.row 8 [[.str x.car,.int .i64 x.num,.int .i64 x.day,.str x.fr,.str x.to,.int .i64 x.dep,.int .i64 x.arr,.str x.cls]])/\T[0]?=some (Ob.row 2 [P0])/\T[1]?=some (Ob.row 9 [[.str (ByteArray.mk #[]),.int .i64 0,.int .i64 0,.int .i64 0,.int .i64 0,.int .i64 0,.nils,.nils,.nils]])/\T[2]?=some (Ob.row 9 [[.str s,.int .i64 sale,.int .i64 dy,.int .i64 mt,.int .i64 sn,.int .i64 tn,d6,d7,.nils]])/\GL 1 Cnd.encT T d6 ((l.take (i+1)).map Wnt.car)/\GL 1 encZ T d7 ((l.take i).map Wnt.num)/\Apart d6 d7)/\gQ a 101 (a[13]?=some (.loc kx 0 0)) [(1,.sl 8 (l.map Wnt.enc) lx),(4,.loc 0 0 0),(8,.loc 1 0 0),(9,.loc 2 0 0),(46,.sl 8 (l.map Wnt.enc) lx),(47,.int .i64 l.length),(48,.int .i64 i),(12,.int .i64 i)]) ?_ ?_
  ·obtain⟨S1,a1,e1,hk,hg,hap'⟩:=car_app g2 (by decide) k6 k7 hap (by omega) x.car
   simp only[Uq]at hg hap'
   have f2:=hk _ _ _ (by decide) g2
   have hS1:2<S1.length:=(Kr.1 f2).1
   simp only[push_cast,hal,h1,h4,h8,h9,h46,h47,h48,h12,h13,g2,gx,f2,hS1,a1,hkf,↓WX,simprocAttr]
   rw[hc6]at hg
   exact⟨_,by first |exact hk _ _ _ (by decide) gx | (rw[Kt hkx2];exact hk _ _ _ (by decide) gx),by first |exact hk _ _ _ (by decide) g0 | (rw[Kt (by omega)];exact hk _ _ _ (by decide) g0),by first |exact hk _ _ _ (by decide) g1 | (rw[Kt (by omega)];exact hk _ _ _ (by decide) g1),rfl,(hg _).1,(hg _).2,hap'⟩
  clear g0 g1 g2 k6 k7 gx hap
  rintro a T ⟨⟨d6,gx,g0,g1,g2,k6,k7,hap⟩,hal,h1,h4,h8,h9,h46,h47,h48,h12,h13⟩
  refine Ya (λa T=>(∃d7,T[kx]?=some (Ob.row 8 [[.str x.car,.int .i64 x.num,.int .i64 x.day,.str x.fr,.str x.to,.int .i64 x.dep,.int .i64 x.arr,.str x.cls]])/\T[0]?=some (Ob.row 2 [P0])/\T[1]?=some Z0/\T[2]?=some (Ob.row 9 [[.str s,.int .i64 sale,.int .i64 dy,.int .i64 mt,.int .i64 sn,.int .i64 tn,d6,d7,.nils]])/\GL 1 Cnd.encT T d6 ((l.take (i+1)).map Wnt.car)/\GL 1 encZ T d7 ((l.take (i+1)).map Wnt.num)/\Apart d6 d7)/\gQ a 101 (a[13]?=some (.loc kx 0 0)) [(1,.sl 8 (l.map Wnt.enc) lx),(4,.loc 0 0 0),(8,.loc 1 0 0),(9,.loc 2 0 0),(46,.sl 8 (l.map Wnt.enc) lx),(47,.int .i64 l.length),(48,.int .i64 i),(12,.int .i64 i)]) ?_ ?_
  ·obtain⟨S1,a1,e1,hk,hg,hap'⟩:=num_app g2 (by decide) k6 k7 hap (by omega) x.num
   simp only[Uq]at hg hap'
   have f2:=hk _ _ _ (by decide) g2
   have hS1:2<S1.length:=(Kr.1 f2).1
   simp only[push_cast,hal,h1,h4,h8,h9,h46,h47,h48,h12,h13,g2,gx,f2,hS1,a1,hkf,↓WX,simprocAttr]
   rw[hc7]at hg
   exact⟨_,by first |exact hk _ _ _ (by decide) gx | (rw[Kt hkx2];exact hk _ _ _ (by decide) gx),by first |exact hk _ _ _ (by decide) g0 | (rw[Kt (by omega)];exact hk _ _ _ (by decide) g0),by first | (rw[hZ0];exact hk _ _ _ (by decide) g1) | (rw[Kt (by omega),hZ0];exact hk _ _ _ (by decide) g1),rfl,(hg _).1,(hg _).2,hap'⟩
  clear g0 g1 g2 k6 k7 gx hap hc6 hc7 hlen6 hlen7
  rintro a T ⟨⟨d7,gx,g0,g1,g2,k6,k7,hap⟩,hal,h1,h4,h8,h9,h46,h47,h48,h12,h13⟩
  have hT2:2<T.length:=(Kr.1 g2).1
  rcases i with _ |j
  ·simp only[push_cast,hal,h1,h4,h8,h9,h46,h47,h48,h12,hlt,Yf,↓WX,simprocAttr,WY]
   refine⟨_,_,_,_,g0,g1,g2,k6,k7,hap,?_,?_⟩
   ·rw[hsn]
    rcases l with _ | ⟨q,l⟩
    ·cases hlt
    ·rfl
   ·rw[htn]
    rcases l with _ | ⟨q,l⟩
    ·cases hlt
    ·rfl
  obtain⟨y,hy⟩:∃y,l[j]?=some y:=⟨l[j],by simp⟩
  have hlj:j<l.length:=by omega
  have hst:=stpM_take hy hx
  have hle:=stpM_le (l.take (j+1))
  have hws:IntKind.i64.wrap (sn+1)=sn+1:=by
   rw[Ve]at hle
   exact Yf (by omega) (by omega)
  have hwt:IntKind.i64.wrap (tn+1)=tn+1:=Yf (by omega) (by omega)
  have s0:∀r,(T.set 2 r)[0]?=some (Ob.row 2 [P0]):=λr=>by rw[Kt (by omega)];exact g0
  have s1:∀r,(T.set 2 r)[1]?=some Z0:=λr=>by rw[Kt (by omega)];exact g1
  rw[Ve]at hle
  have hw1:IntKind.i64.wrap ((j:Int)+1-1)=j:=by rw[show (j:Int)+1-1=j by omega];exact Yf (by omega) (by omega)
  have hne:decide ((j:Int)+1=0)=false:=Ud (by omega)
  have cst:=PStops_x (n:=n) y.arr x.dep (by omega)
  cases c:stpP y.arr x.dep
  ·rw[c,if_neg (by decide)]at hst
   rw[c]at cst
   simp(disch:=omega)only[push_cast,hal,h1,h4,h8,h9,h46,h47,h48,h12,h13,g2,gx,hT2,hne,hw1,hlt,hy,cst,hwt,Wnt.enc,Yf,↓WX,simprocAttr,WY]
   refine⟨_,_,_,_,g0,g1,rfl,k6.sets g2 (by decide) _,k7.sets g2 (by decide) _,hap,?_,?_⟩ <;> rw[hst] <;> omega
  ·rw[c,if_pos rfl]at hst
   rw[c]at cst
   simp(disch:=omega)only[push_cast,hal,h1,h4,h8,h9,h46,h47,h48,h12,h13,g2,gx,hT2,hne,hw1,hlt,hy,cst,hws,Wnt.enc,Yf,↓WX,simprocAttr,WY]
   refine⟨_,_,_,_,g0,g1,rfl,k6.sets g2 (by decide) _,k7.sets g2 (by decide) _,hap,?_,?_⟩ <;> rw[hst] <;> omega
 clear hV
 rintro a T ⟨⟨d6,d7,g0,g1,g2,k6,k7⟩,hal,h1,h4,h8,h9⟩
 subst hP0
 have hlt2:2<T.length:=(Kr.1 g2).1
 refine Ya (λa W=>W=T/\gQ a 101 (a[14]?=some (.sl 1 (cs.map Cnd.encT) cx)) [(4,.loc 0 0 0),(8,.loc 1 0 0),(9,.loc 2 0 0)]) ?_ ?_
 ·simp only[push_cast,hal,h1,h4,h8,h9,g0,hcs,↓WX,simprocAttr]
 rintro a W ⟨rfl,hal,h4,h8,h9,h14⟩
 have h1c:(1:Int)<=cs.length:=by omega
 have hge:(0<=(cs.length:Int)-1)=True:=eq_true (by omega)
 have htn:((cs.length:Int)-1).toNat=cs.length-1:=by omega
 rw[hZ0]at g1
 have o6:=k6.one
 have o7:=k7.one
 simp only[D.one]at o6 o7
 have hlt1:1<W.length:=by omega
 have h2c:(1<=cs.length-1/\cs.length-1<=cs.length)=True:=eq_true ⟨by omega,by omega⟩
 simp(maxSteps:=1000000)(disch:=omega)only[push_cast,hal,h8,h9,h14,o6,o7,h2c,g1,g2,hlt1,hlt2,hge,htn,Yf,Tryz.f64,↓WX,simprocAttr]
 refine⟨d6,d7,.sl 1 (((cs.drop 1).take (cs.length-1-1)).map Cnd.encT) (cx && decide (cs.length-1=cs.length)),by rw[List.map_take,List.map_drop];rfl,(k6.sets g2 (by decide) _).sets (z:=9) (by rw[Kt (by omega)];exact g1) (by decide) _,(k7.sets g2 (by decide) _).sets (z:=9) (by rw[Kt (by omega)];exact g1) (by decide) _,.inr ⟨_,rfl⟩⟩
theorem PTrip_x (p:Plc) (hpa:p.aps.length<=1048576) (hsh:∀a∈p.aps,a.sh.length<=1048576) (l:List Wnt) (lx:Bool) (hl:l.length<=900) (hl0:l≠[]) (s:ByteArray) (sale:Int) (hn:1048610<=n):
  ∃x y z,(tripP p l s sale).Ok x y z/\∀st S,Yi E (Yb E n) st S 64 [.agg p.enc,.sl 8 (l.map Wnt.enc) lx,.str s,.int .i64 sale]=some (.agg ((tripP p l s sale).enc x y z),S):=by
 obtain⟨m,rfl⟩:∃m,n=m+1:=⟨n-1,by omega⟩
 obtain⟨_,T,ho,d6,d7,dv,rfl,k6,k7,kv⟩:=PTrip_d (n:=m) p hpa hsh l lx hl hl0 s sale (by omega)
 obtain⟨x,fx,hx⟩:=k6.flsN (Cnd.encT_pure _) 37
 obtain⟨y,fy,hy⟩:=k7.flsN (encZs_pure' _) 37
 refine⟨x,y,dv,⟨hx,hy,kv,?_,?_,?_⟩,λst S=>Yd rfl (by simp only[Yc,Yg,D.pure,Yt,Jd,Ua]) ho ?_⟩
 ·simp only[tripP,Uq];omega
 ·simp only[tripP,Uq];omega
 ·simp only[tripP,Ve,Vf,citF_len p hl0];omega
 ·clear ho
  generalize tripP p l s sale=tf at*
  have fz:Xp T 39 dv=some dv:=Yy (Xr kv (Cnd.encT_pure _))
  exact freeze_agg9 fx fy fz
end
end Go.Proofs.YtaklebjoenophaaGreat.Dm
