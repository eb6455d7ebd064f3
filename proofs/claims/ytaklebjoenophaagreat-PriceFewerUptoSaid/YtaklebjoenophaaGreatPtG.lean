/-
  What the search is prepared with: the lists made.
-/
import Derived.Test.YtaklebjoenophaaGreatPtE
set_option maxHeartbeats 64000000
set_option maxRecDepth 100000
set_option linter.unusedSimpArgs false
set_option linter.unusedVariables false
namespace Go.Proofs.YtaklebjoenophaaGreat.Dm
open Go Gw
section
variable {call : Call} {ops : Array Oper} {a : List D} {S : List Ob} {Q : Post} {L : List Nat}
theorem wp_slotS {b i s:Nat} {p:Plan} {t:TypeId} {x y:Operand} {l c:Int} {d0:D} {ob:Ob} {J:List Ob} {dst:Option Tmp} {ft:List Edge} {pos:String} {ty:TypeId} (ho:ops[i]?=some { op:=.makeSlice t x y,dst:=dst,guard:=none,after:=ft.toArray,pos:=pos,type:=ty }) (hs:slotN L i=some s) (hx:evD Dm.E a x=.int .i64 l) (hy:evD Dm.E a y=.int .i64 c) (hm:dMakeSlice Tryz.prog [] t l c=some (d0,ob::J)) (hd:S[b+s]?=some .dead):
  WR (planD Dm.E call ops L b (.step i p) a S) Q=WR (planD Dm.E call ops L b p (putD a dst (.os (b+s) 0 l.toNat false)) (S.set (b+s) ob)) Q:=by
 have hm':dMakeSlice Dm.E.P [] t l c=some (d0,ob::J):=hm
 simp only[planD,ho,stepW,hs,stepM,wantD,dMade,hx,hy,hm',hd]
end
theorem mkOpt {m:Nat} (hm:m<=1000):dMakeSlice Tryz.prog [] 83 m m=some (.os 0 0 m false,[.row 1 (List.replicate m [D.nils])]):=by
 have h1:elemT Tryz.prog 83=some 37:=by kernel_rfl
 have h2:sizeT Tryz.prog 37=some (0+1):=by kernel_rfl
 have h3:zeroT Tryz.prog 37=some .nils:=by kernel_rfl
 have h4:bytesT Tryz.prog 37<=100000:=Nat.le_of_ble_eq_true (by kernel_rfl)
 have h5:((bytesT Tryz.prog 37:Nat):Int)*(m:Int)<=140737488355328:=by
  have:=Nat.mul_le_mul h4 hm
  omega
 unfold dMakeSlice
 rw[h1]
 dsimp only
 rw[h2,h3]
 dsimp only
 rw[if_pos ⟨by omega,by omega,h5,by omega,rfl,rfl⟩]
 rfl
theorem mkLst {m:Nat} (hm:m<=1000):dMakeSlice Tryz.prog [] 70 m m=some (.os 0 0 m false,[.row 1 (List.replicate m [D.int .i64 0])]):=by
 have h1:elemT Tryz.prog 70=some 3:=by kernel_rfl
 have h2:sizeT Tryz.prog 3=some (0+1):=by kernel_rfl
 have h3:zeroT Tryz.prog 3=some (.int .i64 0):=by kernel_rfl
 have h4:bytesT Tryz.prog 3<=100000:=Nat.le_of_ble_eq_true (by kernel_rfl)
 have h5:((bytesT Tryz.prog 3:Nat):Int)*(m:Int)<=140737488355328:=by
  have:=Nat.mul_le_mul h4 hm
  omega
 unfold dMakeSlice
 rw[h1]
 dsimp only
 rw[h2,h3]
 dsimp only
 rw[if_pos ⟨by omega,by omega,h5,by omega,rfl,rfl⟩]
 rfl
structure Pre (p:Plc) (t:Trf) (w:List Wnt) (wx:Bool) (s:ByteArray) (sale:Int) (V:List Ob) (kS:Nat) (T:List Ob) (ds:List D) (Ls:List Int):Prop where
 kp:∀k o,k<V.length->k≠kS->V[k]?=some o->T[k]?=some o
 ks:kS<V.length
 row:T[kS]?=some (.row 19 [[.sl 5 (p.aps.map Apt.enc) p.apsx,.sl 3 (p.dts.map Dst.enc) p.dtsx,.sl 9 (t.fares.map Far.enc) t.fx,.sl 15 (t.rules.map Rul.enc) t.rx,.sl 3 (t.rous.map Rou.enc) t.ox,.sl 7 (t.taxes.map Tx.enc) t.tx,.sl 8 (w.map Wnt.enc) wx,.str s,.int .i64 sale,.os V.length 0 w.length false,.os (V.length+1) 0 (w.length+1) false,.nils,.int .i64 0,.nils,.nils,.nils,.int .i64 0,.int .i64 0,.bool false]])
 ob:T[V.length]?=some (.row 1 (ds.map λd=>[d]))
 lb:T[V.length+1]?=some (.row 1 (Ls.map encZ))
 dl:ds.length=w.length
 ll:Ls.length=w.length+1
section
variable {p : Plc} {t : Trf} {w : List Wnt} {wx : Bool} {s : ByteArray} {sale : Int} {V : List Ob} {kS : Nat} {T U : List Ob} {ds : List D} {Ls : List Int}
theorem Pre.keep (h:Pre p t w wx s sale V kS T ds Ls) (g:∀k o,k<V.length+2->T[k]?=some o->U[k]?=some o):Pre p t w wx s sale V kS U ds Ls:=
 ⟨λk o hk hs ho=>g _ _ (by omega) (h.kp k o hk hs ho),h.ks,g _ _ (by have:=h.ks;omega) h.row,g _ _ (by omega) h.ob,g _ _ (by omega) h.lb,h.dl,h.ll⟩
theorem Pre.setL (h:Pre p t w wx s sale V kS T ds Ls) (i:Nat) (v:Int):Pre p t w wx s sale V kS (T.set (V.length+1) (.row 1 ((Ls.set i v).map encZ))) ds (Ls.set i v):=by
 have hk:=h.ks
 have hl:=lt_of_some h.lb
 refine⟨λk o hk hs ho=>?_,hk,?_,?_,Yo hl,h.dl,by rw[Zg];exact h.ll⟩
 ·rw[Yc (by omega)];exact h.kp k o hk hs ho
 ·rw[Yc (by omega)];exact h.row
 ·rw[Yc (by omega)];exact h.ob
theorem Pre.setO (h:Pre p t w wx s sale V kS T ds Ls) (i:Nat) (v:D):Pre p t w wx s sale V kS (T.set V.length (.row 1 ((ds.set i v).map λd=>[d]))) (ds.set i v) Ls:=by
 have hk:=h.ks
 have hl:=lt_of_some h.ob
 refine⟨λk o hk hs ho=>?_,hk,?_,Yo hl,?_,by rw[Zg];exact h.dl,h.ll⟩
 ·rw[Yc (by omega)];exact h.kp k o hk hs ho
 ·rw[Yc (by omega)];exact h.row
 ·rw[Yc (by omega)];exact h.lb
end
def lstN (rj O:Option Int) (am:Int):Option Int:=match rj with
 |none=>O
 |some r=>match O with
  |none=>some (am+r)
  |some b=>if am+r<b then some (am+r) else some b
theorem lstS_N {L:Nat->Option Int} {O:Option Int} {i j:Nat} {fa am:Int}:lstS L O ⟨i,j,fa,am⟩=lstN (L j) O am:=by
 unfold lstS lstN
 rw[show ((j:Int)).toNat=j from Int.toNat_natCast j]
 cases L j <;> cases O <;> rfl
def planPre:Plan:=steps [0,1,2,4,5] (.both (.step 3 (steps [7,8] (.both (.step 6 (steps [9,10,11,12] .done)) (steps [9] (.step 6 (steps [10,11,12] .done)))))) (.step 6 (.step 3 (steps [7,8,9,10,11,12] .done))))
section
variable {n : Nat}
theorem Pprep_d {p:Plc} (hp:PlG p) {t:Trf} (ht:TrG t) {w:List Wnt} {wx:Bool} {s:ByteArray} {sale:Int} (hw:w.length<=800) (hfl:t.fares.length<=19) {V:List Ob} {kS:Nat} (gS:V[kS]?=some (.row 19 [[.sl 5 (p.aps.map Apt.enc) p.apsx,.sl 3 (p.dts.map Dst.enc) p.dtsx,.sl 9 (t.fares.map Far.enc) t.fx,.sl 15 (t.rules.map Rul.enc) t.rx,.sl 3 (t.rous.map Rou.enc) t.ox,.sl 7 (t.taxes.map Tx.enc) t.tx,.sl 8 (w.map Wnt.enc) wx,.str s,.int .i64 sale,.nils,.nils,.nils,.int .i64 0,.nils,.nils,.nils,.int .i64 0,.int .i64 0,.bool false]])) (hn:80000000<=n):
  WO (dcall E (n+1) 24 [.loc kS 0 0] V) λr T=>r=.tup []/\∃ds Ls,Pre p t w wx s sale V kS T ds Ls/\(∀(i:Nat) d,ds[i]?=some d->GL 4 Prt.enc T d (optF (wyW p t w s sale) (amW p t w s) t.fares.length w.length i))/\∀i,i<=w.length->Ls[i]?=some (lsI ((srcF (wyW p t w s sale) (amW p t w s) pctF p t w s).least i)):=by
 have hkl:=lt_of_some gS
 refine wo_dcall Tryz.func24 rfl (by decide) rfl 148 rfl (λa hal ha=>?_)
 have h0:a[0]?=some (.loc kS 0 0):=ha 0 (by simp)
 clear ha
 refine wc_scut (λa U=>U=V/\a.length=148/\a[0]?=some (.loc kS 0 0)/\a[2]?=some (.int .i64 w.length)) ?_ ?_
 ·simp(maxSteps:=1000000)(disch:=omega)only[push_cast,hal,h0,gS,↓WX,simprocAttr]
 clear hal h0 a
 rintro a V ⟨rfl,hal,h0,h2⟩
 have gX:(V++[Ob.dead,Ob.dead])[kS]?=some (.row 19 [[.sl 5 (p.aps.map Apt.enc) p.apsx,.sl 3 (p.dts.map Dst.enc) p.dtsx,.sl 9 (t.fares.map Far.enc) t.fx,.sl 15 (t.rules.map Rul.enc) t.rx,.sl 3 (t.rous.map Rou.enc) t.ox,.sl 7 (t.taxes.map Tx.enc) t.tx,.sl 8 (w.map Wnt.enc) wx,.str s,.int .i64 sale,.nils,.nils,.nils,.int .i64 0,.nils,.nils,.nils,.int .i64 0,.int .i64 0,.bool false]]):=get_old gS
 have d0:(V++[Ob.dead,Ob.dead])[V.length]?=some .dead:=by simp
 have d1:(V++[Ob.dead,Ob.dead])[V.length+1]?=some .dead:=by simp
 have hXl:(V++[Ob.dead,Ob.dead]).length=V.length+2:=by simp
 obtain⟨X,hX⟩:∃X,X=V++[Ob.dead,Ob.dead]:=⟨_,rfl⟩
 rw[<-hX]at gX d0 d1 hXl
 have hw1:IntKind.i64.wrap ((w.length:Int)+1)=(w.length:Int)+1:=wrap_ok (by omega) (by omega)
 have hc1:∀(Y:List Ob) (r b:Ob),(Y.set kS r).set (V.length+1) b=(Y.set (V.length+1) b).set kS r:=λY r b=>List.set_comm _ _ (by omega)
 have hc2:∀(Y:List Ob) (r b:Ob),(Y.set (V.length+1) r).set V.length b=(Y.set V.length b).set (V.length+1) r:=λY r b=>List.set_comm _ _ (by omega)
 refine wc_scut (λa U=>U=((X.set V.length (Ob.row 1 (List.replicate w.length [D.nils]))).set (V.length+1) (Ob.row 1 (List.replicate (w.length+1) [D.int .i64 0]))).set kS (.row 19 [[.sl 5 (p.aps.map Apt.enc) p.apsx,.sl 3 (p.dts.map Dst.enc) p.dtsx,.sl 9 (t.fares.map Far.enc) t.fx,.sl 15 (t.rules.map Rul.enc) t.rx,.sl 3 (t.rous.map Rou.enc) t.ox,.sl 7 (t.taxes.map Tx.enc) t.tx,.sl 8 (w.map Wnt.enc) wx,.str s,.int .i64 sale,.os V.length 0 w.length false,.os (V.length+1) 0 (w.length+1) false,.nils,.int .i64 0,.nils,.nils,.nils,.int .i64 0,.int .i64 0,.bool false]])/\a.length=148/\a[0]?=some (.loc kS 0 0)/\a[2]?=some (.int .i64 w.length)) ?_ ?_
 ·have e1:∀Z:Ob,(X.set V.length Z)[kS]?=some (.row 19 [[.sl 5 (p.aps.map Apt.enc) p.apsx,.sl 3 (p.dts.map Dst.enc) p.dtsx,.sl 9 (t.fares.map Far.enc) t.fx,.sl 15 (t.rules.map Rul.enc) t.rx,.sl 3 (t.rous.map Rou.enc) t.ox,.sl 7 (t.taxes.map Tx.enc) t.tx,.sl 8 (w.map Wnt.enc) wx,.str s,.int .i64 sale,.nils,.nils,.nils,.int .i64 0,.nils,.nils,.nils,.int .i64 0,.int .i64 0,.bool false]]):=λZ=>by rw[Yc (by omega)];exact gX
  have e2:∀Z Z':Ob,((X.set V.length Z).set (V.length+1) Z')[kS]?=some (.row 19 [[.sl 5 (p.aps.map Apt.enc) p.apsx,.sl 3 (p.dts.map Dst.enc) p.dtsx,.sl 9 (t.fares.map Far.enc) t.fx,.sl 15 (t.rules.map Rul.enc) t.rx,.sl 3 (t.rous.map Rou.enc) t.ox,.sl 7 (t.taxes.map Tx.enc) t.tx,.sl 8 (w.map Wnt.enc) wx,.str s,.int .i64 sale,.nils,.nils,.nils,.int .i64 0,.nils,.nils,.nils,.int .i64 0,.int .i64 0,.bool false]]):=λZ Z'=>by rw[Yc (by omega)];exact e1 Z
  have e3:∀Z Z':Ob,(((X.set V.length Z).set (V.length+1) Z').set kS (.row 19 [[.sl 5 (p.aps.map Apt.enc) p.apsx,.sl 3 (p.dts.map Dst.enc) p.dtsx,.sl 9 (t.fares.map Far.enc) t.fx,.sl 15 (t.rules.map Rul.enc) t.rx,.sl 3 (t.rous.map Rou.enc) t.ox,.sl 7 (t.taxes.map Tx.enc) t.tx,.sl 8 (w.map Wnt.enc) wx,.str s,.int .i64 sale,.os V.length 0 w.length false,.nils,.nils,.int .i64 0,.nils,.nils,.nils,.int .i64 0,.int .i64 0,.bool false]]))[kS]?=some (.row 19 [[.sl 5 (p.aps.map Apt.enc) p.apsx,.sl 3 (p.dts.map Dst.enc) p.dtsx,.sl 9 (t.fares.map Far.enc) t.fx,.sl 15 (t.rules.map Rul.enc) t.rx,.sl 3 (t.rous.map Rou.enc) t.ox,.sl 7 (t.taxes.map Tx.enc) t.tx,.sl 8 (w.map Wnt.enc) wx,.str s,.int .i64 sale,.os V.length 0 w.length false,.nils,.nils,.int .i64 0,.nils,.nils,.nils,.int .i64 0,.int .i64 0,.bool false]]):=λZ Z'=>Yo (by rw[Zg,Zg,hXl];omega)
  have e4:∀Z:Ob,(X.set V.length Z)[V.length+1]?=some .dead:=λZ=>by rw[Yc (by omega)];exact d1
  have e5:∀Z:Ob,((X.set V.length Z).set kS (.row 19 [[.sl 5 (p.aps.map Apt.enc) p.apsx,.sl 3 (p.dts.map Dst.enc) p.dtsx,.sl 9 (t.fares.map Far.enc) t.fx,.sl 15 (t.rules.map Rul.enc) t.rx,.sl 3 (t.rous.map Rou.enc) t.ox,.sl 7 (t.taxes.map Tx.enc) t.tx,.sl 8 (w.map Wnt.enc) wx,.str s,.int .i64 sale,.os V.length 0 w.length false,.nils,.nils,.int .i64 0,.nils,.nils,.nils,.int .i64 0,.int .i64 0,.bool false]]))[V.length+1]?=some .dead:=λZ=>by rw[Yc (by omega)];exact e4 Z
  have e6:∀Z:Ob,(X.set (V.length+1) Z)[V.length]?=some .dead:=λZ=>by rw[Yc (by omega)];exact d0
  rw[wc_planL (L:=[3,6]) (p:=planPre) rfl]
  unfold planPre
  show WR (planD _ _ _ _ _ _ _ (V++[.dead,.dead])) _
  rw[<-hX]
  rw[wp_pickL rfl]
  simp only[opsOf,Yw,Zb,Yk,Yl,Yh]
  simp(maxSteps:=1000000)(disch:=omega)only[push_cast,hal,h0,h2,hw1,↓WX,simprocAttr]
  have hN:((w.length:Int)+1).toNat=w.length+1:=by omega
  have mL:=mkLst (m:=w.length+1) (by omega)
  rw[show ((w.length+1:Nat):Int)=(w.length:Int)+1 from Int.natCast_succ _]at mL
  have hs18:∀(b:List D) (x y:D),(b.set 21 x).set 18 y=(b.set 18 y).set 21 x:=λb x y=>List.set_comm _ _ (by decide)
  have hs22:∀(b:List D) (x y:D),(b.set 21 x).set 22 y=(b.set 22 y).set 21 x:=λb x y=>List.set_comm _ _ (by decide)
  have hs23:∀(b:List D) (x y:D),(b.set 21 x).set 23 y=(b.set 23 y).set 21 x:=λb x y=>List.set_comm _ _ (by decide)
  have mO:=mkOpt (m:=w.length) (by omega)
  apply wp_bothL
  ·rw[wp_slotS rfl rfl (by simp[evD,hal]) (by simp[evD,hal]) mO (by exact d0),wp_pickL rfl]
   simp only[opsOf,Yw,Zb,Yk,Yl,Yh]
   simp(maxSteps:=1000000)(disch:=omega)only[push_cast,hal,↓WX,simprocAttr]
   apply wp_bothL
   ·rw[wp_slotS rfl rfl (by simp[evD,hal]) (by simp[evD,hal]) mL (by exact e4 _),wp_pickL rfl]
    simp only[opsOf,Yw,Zb,Yk,Yl,Yh]
    simp(maxSteps:=1000000)(disch:=omega)only[push_cast,hal,e2,e3,hN,wp_doneL,Xf,↓WX,simprocAttr]
    exact⟨rfl,rfl⟩
   ·rw[wp_pickL rfl]
    simp only[opsOf,Yw,Zb,Yk,Yl,Yh]
    simp(maxSteps:=1000000)(disch:=omega)only[push_cast,hal,e1,↓WX,simprocAttr]
    rw[wp_slotS rfl rfl (by simp[evD,hal]) (by simp[evD,hal]) mL (by exact e5 _),wp_pickL rfl]
    simp only[opsOf,Yw,Zb,Yk,Yl,Yh]
    simp(maxSteps:=1000000)(disch:=omega)only[push_cast,hal,e3,hc1,hN,wp_doneL,Xf,↓WX,simprocAttr]
   ·exact⟨rfl,rfl⟩
  ·rw[wp_slotS rfl rfl (by simp[evD,hal]) (by simp[evD,hal]) mL (by exact d1),wp_slotS rfl rfl (by simp[evD,putD,hal]) (by simp[evD,putD,hal]) mO (by exact e6 _),wp_pickL rfl]
   simp only[opsOf,Yw,Zb,Yk,Yl,Yh]
   simp(maxSteps:=1000000)(disch:=omega)only[push_cast,hal,e2,e3,hc2,hN,wp_doneL,Xf,↓WX,simprocAttr]
   simp only[hs18,hs22,hs23]
  ·simp(maxSteps:=1000000)(disch:=omega)only[push_cast,hal,h0,h2,simprocAttr]
 clear hal h0 h2 a
 rintro a T ⟨hT,hal,h0,h2⟩
 obtain⟨W,hW⟩:∃W,W=wyW p t w s sale:=⟨_,rfl⟩
 obtain⟨A,hA⟩:∃A,A=amW p t w s:=⟨_,rfl⟩
 rw[<-hW,<-hA]
 have hP0:Pre p t w wx s sale V kS T (List.replicate w.length .nils) (List.replicate (w.length+1) 0):=by
  rw[hT,hX]
  refine⟨λk o hk hs ho=>?_,hkl,Yo (by simp;omega),?_,?_,List.length_replicate,List.length_replicate⟩
  ·rw[Yc (by omega),Yc (by omega),Yc (by omega)];exact get_old ho
  ·rw[Yc (by omega),Yc (by omega),Yo (by simp),List.map_replicate]
  ·rw[Yc (by omega),Yo (by simp),List.map_replicate]
   try rfl
 have hTl:V.length+2<=T.length:=by rw[hT,Zg,Zg,Zg,hXl];omega
 clear hT gX d0 d1 hXl hX hc1 hc2 gS X
 refine wc_scut (λa U=>U=T/\a.length=148/\a[0]?=some (.loc kS 0 0)/\a[2]?=some (.int .i64 w.length)/\a[3]?=some (.int .i64 ((w.length:Int)-1))) ?_ ?_
 ·simp(maxSteps:=1000000)(disch:=omega)only[push_cast,hal,h0,h2,wrap_ok,↓WX,simprocAttr]
 clear hal h0 h2 a
 rintro a U ⟨rfl,hal,h0,h2,h3⟩
 simp(maxSteps:=1000000)(disch:=omega)only[push_cast,Int.reduceNeg,wc_wl,↓WX]
 refine wl_loop (λr a T=>(∃ds Ls,Pre p t w wx s sale V kS T ds Ls/\V.length+2<=T.length/\(∀(i:Nat) d,w.length<=i+r->ds[i]?=some d->GL 4 Prt.enc T d (optF W A t.fares.length w.length i)/\∀k m,d=.os k 0 m false->V.length+2<=k)/\(∀i,i<=w.length->w.length<=i+r->Ls[i]?=some (lsI ((srcF W A pctF p t w s).least i)))/\∀i,i+r<w.length->ds[i]?=some .nils)/\a.length=148/\a[0]?=some (.loc kS 0 0)/\a[2]?=some (.int .i64 w.length)/\a[3]?=some (.int .i64 ((w.length:Int)-1-r))) w.length ?_ (by omega) ?_
 ·simp(maxSteps:=1000000)(disch:=omega)only[push_cast,hal,h0,h2,h3,Int.natCast_zero,Int.sub_zero]
  refine⟨_,_,hP0,hTl,λi d hi hd=>?_,λi hi hi2=>?_,λi hi=>?_⟩
  ·have:=lt_of_some hd
   rw[List.length_replicate]at this
   omega
  ·obtain rfl:i=w.length:=by omega
   rw[List.getElem?_replicate,if_pos (by omega)]
   show some (0:Int)=some (lsI (lstF _ w.length (w.length-w.length) w.length))
   rw[Nat.sub_self,lstF,if_pos rfl]
   rfl
  ·rw[List.getElem?_replicate,if_pos (by omega)]
 clear hal h0 h2 h3 a
 clear hP0 hTl U
 rintro r a T hr ⟨⟨ds,Ls,hP,hTl,hD,hL,hZ⟩,hal,h0,h2,h3⟩
 rcases Yf hr with hlt |rfl
 case inr=>
  have hm1:((w.length:Int)-1-w.length>=0)=False:=eq_false (by omega)
  simp(maxSteps:=1000000)(disch:=omega)only[push_cast,hal,h3,hm1,decide_false,Tryz.f24,↓WX,simprocAttr]
  exact⟨ds,Ls,hP,λi d hd=>(hD i d (by omega) hd).1,λi hi=>hL i hi (by omega)⟩
 obtain⟨i,hi⟩:∃i,i+r+1=w.length:=⟨w.length-r-1,by omega⟩
 have hic:(w.length:Int)-1-r=(i:Int):=by omega
 rw[hic]at h3
 have hi0:((i:Int)>=0)=True:=eq_true (by omega)
 refine wc_scut (λa U=>U=T/\a.length=148/\a[0]?=some (.loc kS 0 0)/\a[2]?=some (.int .i64 w.length)/\a[3]?=some (.int .i64 i)) ?_ ?_
 ·simp(maxSteps:=1000000)(disch:=omega)only[push_cast,hal,h0,h2,h3,hi0,decide_true,↓WX,simprocAttr]
 clear hal h0 h2 h3 a
 rintro a U ⟨rfl,hal,h0,h2,h3⟩
 rw[wc_seq,wc_block]
 have gS:=hP.row
 have gl:=hP.lb
 have hll:=hP.ll
 have hil:i<Ls.length:=by omega
 have hi1:(0<=(i:Int))=True:=eq_true (by omega)
 have hi2:((i:Int)<(w.length:Int)+1)=True:=eq_true (by omega)
 obtain⟨v0,hv0⟩:∃v,Ls[i]?=some v:=⟨Ls[i],by simp⟩
 have hmp:∀v:Int,(Ls.map encZ).set i [.int .i64 v]=(Ls.set i v).map encZ:=λv=>(List.map_set ..).symm
 have hP1:=hP.setL i (-1)
 refine wc_scut (λa X=>X=U.set (V.length+1) (.row 1 ((Ls.set i (-1)).map encZ))/\a.length=148/\a[0]?=some (.loc kS 0 0)/\a[2]?=some (.int .i64 w.length)/\a[3]?=some (.int .i64 i)) ?_ ?_
 ·simp(maxSteps:=1000000)(disch:=omega)only[push_cast,hal,h0,h2,h3,gS,gl,hi1,hi2,hv0,hmp,encZ,↓WX,simprocAttr]
 clear hal h0 h2 h3 a
 rintro a X ⟨hX,hal,h0,h2,h3⟩
 rw[<-hX]at hP1
 have hXz:∀(k:Nat) (es:List (List D)),U[k]?=some (Ob.row 4 es)->X[k]?=some (Ob.row 4 es):=λk es hk=>by rw[hX];exact set_keepz hP.lb (by decide) k es hk
 have hXl:V.length+2<=X.length:=by rw[hX,Zg];exact hTl
 have hD1:∀(i':Nat) d,i<i'->ds[i']?=some d->GL 4 Prt.enc X d (optF W A t.fares.length w.length i')/\∀k m,d=.os k 0 m false->V.length+2<=k/\k<X.length:=λi' d h1 h2=>by
  obtain⟨g1,g2⟩:=hD i' d (by omega) h2
  have g3:GL 4 Prt.enc X d (optF W A t.fares.length w.length i'):=g1.imp id λ⟨k,e,g⟩=>⟨k,e,hXz _ _ g⟩
  refine⟨g3,λk m hk=>⟨g2 k m hk,?_⟩⟩
  rcases g3 with ⟨g3,-⟩ | ⟨k2,g3,g4⟩
  ·rw[g3]at hk;cases hk
  ·rw[g3]at hk
   obtain⟨rfl,-⟩:=D.os.inj hk
   exact lt_of_some g4
 have hL1:∀i',i<i'->i'<=w.length->(Ls.set i (-1))[i']?=some (lsI ((srcF W A pctF p t w s).least i')):=λi' h1 h2=>by
  rw[Yc (by omega)]
  exact hL i' h2 (by omega)
 have hLi:(Ls.set i (-1))[i]?=some (-1):=Yo hil
 have hZ1:∀i',i'<i->ds[i']?=some .nils:=λi' h=>hZ i' (by omega)
 have hZi:ds[i]?=some .nils:=hZ i (by omega)
 generalize Ls.set i (-1)=Ls1 at*
 obtain⟨B,hB⟩:∃B,B=X.length:=⟨_,rfl⟩
 rw[<-hB]at hD1
 have hBX:B<=X.length:=by omega
 have hVB:V.length+2<=B:=by omega
 clear hX hXz hD hL hZ hv0 hmp gl gS hP hTl hll hil hB hXl U
 refine wc_scut (λa Y=>Y=X/\a.length=148/\a[0]?=some (.loc kS 0 0)/\a[2]?=some (.int .i64 w.length)/\a[3]?=some (.int .i64 i)/\a[4]?=some (.int .i64 ((i+1:Nat):Int))) ?_ ?_
 ·simp(maxSteps:=1000000)(disch:=omega)only[push_cast,hal,h0,h2,h3,wrap_ok,Int.natCast_add,Int.natCast_one,↓WX,simprocAttr]
 clear hal h0 h2 h3 a
 rintro a Y ⟨rfl,hal,h0,h2,h3,h4⟩
 simp(maxSteps:=1000000)(disch:=omega)only[push_cast,Int.reduceNeg,wc_wl,↓WX]
 refine wl_loop (λm a T=>(∃ds Ls d,Pre p t w wx s sale V kS T ds Ls/\B<=T.length/\(∀(i':Nat) d,i<i'->ds[i']?=some d->GL 4 Prt.enc T d (optF W A t.fares.length w.length i')/\∀k m,d=.os k 0 m false->V.length+2<=k/\k<B)/\ds[i]?=some d/\GL 4 Prt.enc T d (optJ W A t.fares.length i m)/\(∀k m,d=.os k 0 m false->B<=k)/\(∀i',i<i'->i'<=w.length->Ls[i']?=some (lsI ((srcF W A pctF p t w s).least i')))/\Ls[i]?=some (lsI ((optJ W A t.fares.length i m).foldl (lstS (srcF W A pctF p t w s).least) none))/\∀i',i'<i->ds[i']?=some .nils)/\a.length=148/\a[0]?=some (.loc kS 0 0)/\a[2]?=some (.int .i64 w.length)/\a[3]?=some (.int .i64 i)/\a[4]?=some (.int .i64 ((i+1+m:Nat):Int))) (w.length-i) ?_ (by omega) ?_
 ·simp(maxSteps:=1000000)(disch:=omega)only[push_cast,hal,h0,h2,h3,h4]
  exact⟨_,_,_,hP1,hBX,hD1,hZi,GL.nil,(λk m h=>by cases h),hL1,hLi,hZ1⟩
 clear hal h0 h2 h3 h4 a
 clear hP1 hBX hD1 hZi hL1 hLi hZ1 ds Ls1 Y
 rintro m a T hm ⟨⟨ds,Ls,d,hP,hTB,hD,hdi,hg,hdB,hL,hLi,hZ⟩,hal,h0,h2,h3,h4⟩
 obtain⟨j,hj⟩:∃j,j=i+1+m:=⟨_,rfl⟩
 rw[<-hj]at h4
 rcases Yf hm with hmlt |rfl
 case inr=>
  have hjn:((j:Int)<=(w.length:Int))=False:=eq_false (by omega)
  have hwr:IntKind.i64.wrap ((i:Int)-1)=(w.length:Int)-1-((r:Int)+1):=by rw[wrap_ok (by omega) (by omega)];omega
  have hls:=least_step (opts:=optF W A t.fares.length w.length) (n:=w.length) (λi' x hx=>⟨(optF_mem hx).2.1,(optF_mem hx).2.2.1⟩) (i:=i) (by omega)
  rw[optJ_all]at hg hLi
  rw[show (optF W A t.fares.length w.length i).foldl (lstS (srcF W A pctF p t w s).least) none=(srcF W A pctF p t w s).least i from hls.symm]at hLi
  simp(maxSteps:=1000000)(disch:=omega)only[push_cast,hal,h0,h2,h3,h4,hjn,hwr,hlt,Int.natCast_add,Int.natCast_one,↓WX,simprocAttr]
  refine⟨ds,Ls,hP,by omega,λi' d' h1 h2=>?_,λi' h1 h2=>?_,λi' h1=>hZ i' (by omega)⟩
  ·by_cases e:i'=i
   ·subst e
    rw[hdi]at h2
    obtain rfl:=Yi h2
    exact⟨hg,λk m hk=>by have:=hdB k m hk;omega⟩
   ·obtain⟨g1,g2⟩:=hD i' d' (by omega) h2
    exact⟨g1,λk m hk=>(g2 k m hk).1⟩
  ·by_cases e:i'=i
   ·subst e
    exact hLi
   ·exact hL i' (by omega) h1
 have hjn:((j:Int)<=(w.length:Int))=True:=eq_true (by omega)
 refine wc_scut (λa Y=>Y=T/\a.length=148/\a[0]?=some (.loc kS 0 0)/\a[2]?=some (.int .i64 w.length)/\a[3]?=some (.int .i64 i)/\a[4]?=some (.int .i64 j)) ?_ ?_
 ·simp(maxSteps:=1000000)(disch:=omega)only[push_cast,hal,h0,h2,h3,h4,hjn,↓WX,simprocAttr]
 clear hal h0 h2 h3 h4 a
 rintro a Y ⟨rfl,hal,h0,h2,h3,h4⟩
 rw[wc_seq,wc_block]
 obtain⟨n',hn'⟩:∃n',n=n'+1:=⟨n-1,by omega⟩
 have hlw:((w.drop i).take (j-i)).length<=900:=by rw[Zn,Zo];omega
 obtain⟨r0,T1,cfs,hx1,hl1,fs,hfp,hfr⟩:=PFares_d (n:=n') (S:=Y) hp ht ((w.drop i).take (j-i)) (wx && decide (j=w.length)) hlw s sale hfl (by omega)
 rw[<-hn']at cfs
 have cfs:∀st,callD E (dcall E n) st Y 50 [.agg p.enc,.agg t.enc,.sl 8 (((w.drop i).take (j-i)).map Wnt.enc) (wx && decide (j=w.length)),.str s,.int .i64 sale]=some (r0,T1):=λst=>cfs
 simp only[Plc.enc,Trf.enc,List.map_take,List.map_drop]at cfs
 have gS:=hP.row
 have hij:(i<=j)=True:=eq_true (by omega)
 have hjw:(j<=w.length)=True:=eq_true (by omega)
 have hi1:(0<=(i:Int))=True:=eq_true (by omega)
 have hj1:(0<=(j:Int))=True:=eq_true (by omega)
 refine wc_scut (λa X=>X=T1/\a.length=148/\a[0]?=some (.loc kS 0 0)/\a[2]?=some (.int .i64 w.length)/\a[3]?=some (.int .i64 i)/\a[4]?=some (.int .i64 j)/\a[5]?=some (r0)) ?_ ?_
 ·simp(maxSteps:=1000000)(disch:=omega)only[push_cast,hal,h0,h2,h3,h4,gS,hij,hjw,hi1,hj1,cfs,and_self,↓WX,simprocAttr]
 clear hal h0 h2 h3 h4 a
 clear cfs gS
 rintro a X ⟨rfl,hal,h0,h2,h3,h4,h5⟩
 obtain⟨l',hl'⟩:∃l',l'=fasF p t ((w.drop i).take (j-i)) s sale t.fares.length:=⟨_,rfl⟩
 have hlo:=fas_ord (p:=p) (t:=t) (l:=(w.drop i).take (j-i)) (s:=s) (sale:=sale) (nf:=t.fares.length)
 have hlm:=λx hx=>fasF_mem (p:=p) (t:=t) (l:=(w.drop i).take (j-i)) (s:=s) (sale:=sale) (i:=t.fares.length) (x:=x) hx
 have hll:=fasF_len (p:=p) (t:=t) (l:=(w.drop i).take (j-i)) (s:=s) (sale:=sale) (i:=t.fares.length)
 have hff:=fas_fars (p:=p) (t:=t) (w:=w) (s:=s) (sale:=sale) (i:=i) (k:=j) t.fares.length
 rw[<-hl']at hfp hlo hlm hll hff
 have hYl:=hl1
 obtain⟨T2,r3,cso,hg2,hk2,hl2,hr2⟩:∃(T2:List Ob) (r3:D),callD E (dcall E n) false X 51 [r0,cFa]=some (r3,T2)/\GL 4 Prt.enc T2 r0 l'/\(∀(k:Nat) (o:Ob),(∀m,r0=.os k 0 m false->False)->X[k]?=some o->T2[k]?=some o)/\X.length<=T2.length/\∀k m,r0=.os k 0 m false->Y.length<=k:=by
  rcases hfr with ⟨rfl,rfl⟩ | ⟨k,rfl,hk1,hk2⟩
  ·obtain⟨r3,r3',c1,-⟩:=Sort0 (n:=n) (by omega)
   exact⟨X,r3,c1 false X,.inl ⟨rfl,hfp.symm.eq_nil⟩,λk o _ h=>h,Yt _,λk m h=>by cases h⟩
  ·have hlen:=hfp.length_eq
   obtain⟨r3,T2,l2,c1,p1,s1,k1,o1,l1⟩:=SortFa (n:=n) hk2 (λx hx=>by have:=hlm x (hfp.mem_iff.1 hx);omega) (by omega) (by omega)
   have hl2:l2=l':=sort_one (p1.trans hfp) s1 hlo
   subst hl2
   refine⟨T2,r3,c1,.inr ⟨k,by rw[hlen],k1⟩,λk' o hd ho=>o1 k' o (λe=>by subst e;exact hd _ rfl) ho,l1,λk' m h=>by obtain⟨rfl,-⟩:=D.os.inj h;exact hk1⟩
 refine wc_scut (λa Z=>Z=T2/\a.length=148/\a[0]?=some (.loc kS 0 0)/\a[2]?=some (.int .i64 w.length)/\a[3]?=some (.int .i64 i)/\a[4]?=some (.int .i64 j)/\a[5]?=some (r0)) ?_ ?_
 ·simp(maxSteps:=1000000)(disch:=omega)only[push_cast,hal,h0,h2,h3,h4,h5,cso,↓WX,simprocAttr]
 clear hal h0 h2 h3 h4 h5 a
 rintro a Z ⟨rfl,hal,h0,h2,h3,h4,h5⟩
 have kYZ:∀(k:Nat) (o:Ob),k<Y.length->Y[k]?=some o->Z[k]?=some o:=λk o hk ho=>hk2 k o (λm hm=>by have:=hr2 k m hm;omega) (hx1 _ _ ho)
 have hPZ:=hP.keep (U:=Z) λk o hk ho=>kYZ k o (lt_of_some ho) ho
 have gYZ:∀ {e:D} {c:List Prt},GL 4 Prt.enc Y e c->GL 4 Prt.enc Z e c:=λg=>g.imp id λ⟨k,e,g⟩=>⟨k,e,kYZ _ _ (lt_of_some g) g⟩
 have hDZ:∀(i':Nat) d,i<i'->ds[i']?=some d->GL 4 Prt.enc Z d (optF W A t.fares.length w.length i')/\∀k m,d=.os k 0 m false->V.length+2<=k/\k<B:=λi' d h1 h2=>⟨gYZ (hD i' d h1 h2).1,(hD i' d h1 h2).2⟩
 have hgZ:=gYZ hg
 have hne:∀k m m',d=.os k 0 m false->r0=.os k 0 m' false->False:=λk m m' h1 h2=>by
  have:=hr2 k m' h2
  rcases hg with ⟨g,-⟩ | ⟨k2,g,g2⟩
  ·rw[g]at h1;cases h1
  ·rw[g]at h1
   obtain⟨rfl,-⟩:=D.os.inj h1
   have:=lt_of_some g2
   omega
 have hBZ:B<=Z.length:=by omega
 have hyl:=lr_len Tryz.underlying37 hg2.lr
 simp only[push_cast]at hyl
 clear hfr hfp cfs cso hk2 kYZ hP gYZ hD hg
 obtain⟨mk,hmk⟩:∃mk:Prt->Prt,mk=λx=>⟨i,j,x.fa,x.am⟩:=⟨_,rfl⟩
 have hfin:optJ W A t.fares.length i (m+1)=optJ W A t.fares.length i m++l'.map mk:=by
  rw[optJ_succ,<-hj,hff,hmk,hW,hA,List.map_map]
  rfl
 refine wc_scut (λa T=>T=Z/\a.length=148/\a[0]?=some (.loc kS 0 0)/\a[2]?=some (.int .i64 w.length)/\a[3]?=some (.int .i64 i)/\a[4]?=some (.int .i64 j)/\a[76]?=some (r0)/\a[77]?=some (.int .i64 l'.length)/\a[78]?=some (.int .i64 0)) ?_ ?_
 ·simp(maxSteps:=1000000)(disch:=omega)only[push_cast,hal,h0,h2,h3,h4,h5,hyl,↓WX,simprocAttr]
 clear hal h0 h2 h3 h4 h5 a
 rintro a T ⟨rfl,hal,h0,h2,h3,h4,h76,h77,h78⟩
 simp(maxSteps:=1000000)(disch:=omega)only[push_cast,Int.reduceNeg,wc_wl,↓WX]
 refine wl_loop (λq a T=>(∃ds Ls d,Pre p t w wx s sale V kS T ds Ls/\B<=T.length/\(∀(i':Nat) d,i<i'->ds[i']?=some d->GL 4 Prt.enc T d (optF W A t.fares.length w.length i')/\∀k m,d=.os k 0 m false->V.length+2<=k/\k<B)/\ds[i]?=some d/\GL 4 Prt.enc T d (optJ W A t.fares.length i m++(l'.take q).map mk)/\(∀k m,d=.os k 0 m false->B<=k)/\(∀k m m',d=.os k 0 m false->r0=.os k 0 m' false->False)/\GL 4 Prt.enc T r0 l'/\(∀i',i<i'->i'<=w.length->Ls[i']?=some (lsI ((srcF W A pctF p t w s).least i')))/\Ls[i]?=some (lsI ((optJ W A t.fares.length i m++(l'.take q).map mk).foldl (lstS (srcF W A pctF p t w s).least) none))/\∀i',i'<i->ds[i']?=some .nils)/\a.length=148/\a[0]?=some (.loc kS 0 0)/\a[2]?=some (.int .i64 w.length)/\a[3]?=some (.int .i64 i)/\a[4]?=some (.int .i64 j)/\a[76]?=some (r0)/\a[77]?=some (.int .i64 l'.length)/\a[78]?=some (.int .i64 q)) l'.length ?_ (by omega) ?_
 ·simp(maxSteps:=1000000)(disch:=omega)only[push_cast,hal,h0,h2,h3,h4,h76,h77,h78,Int.natCast_zero]
  exact⟨ds,Ls,d,hPZ,hBZ,hDZ,hdi,by simpa using hgZ,hdB,hne,hg2,hL,by simpa using hLi,hZ⟩
 clear hal h0 h2 h3 h4 h76 h77 h78 a
 clear hPZ hBZ hDZ hdi hgZ hdB hne hg2 hL hLi hZ hyl ds Ls d
 rintro q a T hq ⟨⟨ds,Ls,d,hP,hTB,hD,hdi,hg,hdB,hne,hgr,hL,hLi,hZ⟩,hal,h0,h2,h3,h4,h76,h77,h78⟩
 rcases Yf hq with hqlt |rfl
 case inr=>
  rw[Zs,<-hfin]at hg hLi
  have hwj:IntKind.i64.wrap ((j:Int)+1)=(i:Int)+1+((m:Int)+1):=by rw[wrap_ok (by omega) (by omega)];omega
  simp(maxSteps:=1000000)(disch:=omega)only[push_cast,hal,h0,h2,h3,h4,h77,h78,Int.lt_irrefl,hwj,hmlt,Int.natCast_add,Int.natCast_one,↓WX,simprocAttr]
  exact⟨ds,Ls,d,hP,hTB,hD,hdi,hg,hdB,hL,hLi,hZ⟩
 have hqltc:(q:Int)<l'.length:=by omega
 obtain⟨x,hx⟩:∃x,l'[q]?=some x:=⟨l'[q],by simp⟩
 have hti:optJ W A t.fares.length i m++(l'.take (q+1)).map mk=optJ W A t.fares.length i m++(l'.take q).map mk++[mk x]:=by rw[List.take_add_one,hx,List.map_append,Zp];rfl
 have hmkx:mk x=⟨i,j,x.fa,x.am⟩:=by rw[hmk]
 refine wc_scut (λa X=>X=T/\a.length=148/\a[0]?=some (.loc kS 0 0)/\a[2]?=some (.int .i64 w.length)/\a[3]?=some (.int .i64 i)/\a[4]?=some (.int .i64 j)/\a[76]?=some (r0)/\a[77]?=some (.int .i64 l'.length)/\a[78]?=some (.int .i64 q)/\a[79]?=some (.bool true)) ?_ ?_
 ·simp(maxSteps:=1000000)(disch:=omega)only[push_cast,hal,h0,h2,h3,h4,h76,h77,h78,hqltc,↓WX,simprocAttr]
 clear hal h0 h2 h3 h4 h76 h77 h78 a
 rintro a X ⟨rfl,hal,h0,h2,h3,h4,h76,h77,h78,h79⟩
 refine wc_scut (λa T=>T=X/\a.length=148/\a[0]?=some (.loc kS 0 0)/\a[2]?=some (.int .i64 w.length)/\a[3]?=some (.int .i64 i)/\a[4]?=some (.int .i64 j)/\a[76]?=some (r0)/\a[77]?=some (.int .i64 l'.length)/\a[78]?=some (.int .i64 q)) ?_ ?_
 ·simp(maxSteps:=1000000)(disch:=omega)only[push_cast,hal,h0,h2,h3,h4,h76,h77,h78,h79,↓WX]
 clear hal h0 h2 h3 h4 h76 h77 h78 h79 a
 rintro a T ⟨rfl,hal,h0,h2,h3,h4,h76,h77,h78⟩
 rw[wc_seq,wc_block]
 refine wc_scut (λa X=>X=T++[.row 4 [[.int .i64 x.fr,.int .i64 x.to,.int .i64 x.fa,.int .i64 x.am]]]/\a.length=148/\a[0]?=some (.loc kS 0 0)/\a[2]?=some (.int .i64 w.length)/\a[3]?=some (.int .i64 i)/\a[4]?=some (.int .i64 j)/\a[76]?=some (r0)/\a[77]?=some (.int .i64 l'.length)/\a[78]?=some (.int .i64 q)/\a[7]?=some (.loc T.length 0 0)) ?_ ?_
 ·rcases hgr with ⟨-,rfl⟩ | ⟨ke,rfl,hke⟩
  ·cases hx
  simp(maxSteps:=1000000)(disch:=omega)only[push_cast,hal,h0,h2,h3,h4,h76,h77,h78,hke,hqlt,hx,set_end,get_end,Prt.enc,↓WX,simprocAttr]
 clear hal h0 h2 h3 h4 h76 h77 h78 a
 rintro a X ⟨hX,hal,h0,h2,h3,h4,h76,h77,h78,h7⟩
 have hTX:ExtS T X:=by rw[hX];exact extS_app
 have gx:X[T.length]?=some (.row 4 [[.int .i64 x.fr,.int .i64 x.to,.int .i64 x.fa,.int .i64 x.am]]):=by rw[hX];exact get_end
 have hXl:T.length<X.length:=lt_of_some gx
 have hP:=hP.keep (U:=X) λk o _ ho=>hTX _ _ ho
 have gTX:∀ {e:D} {c:List Prt},GL 4 Prt.enc T e c->GL 4 Prt.enc X e c:=λg=>g.imp id λ⟨k,e,g⟩=>⟨k,e,hTX _ _ g⟩
 have hdT:∀k n',d=.os k 0 n' false->k<T.length:=λk n' e=>GL.lt hg k n' e
 have hg:=gTX hg
 have hgr:=gTX hgr
 have hglen:(optJ W A t.fares.length i m++(l'.take q).map mk).length<=100000:=by
  have h1:=optJ_len (W:=W) (A:=A) (nf:=t.fares.length) (i:=i) m
  have h2:m*t.fares.length<=800*19:=Nat.mul_le_mul (by omega) hfl
  rw[Yd,Yz,Zn]
  omega
 obtain⟨S',a1,a2,a3,a4,-⟩:=app_gl (t:=37) (e:=79) (z:=.agg [.int .i64 0,.int .i64 0,.int .i64 0,.int .i64 0]) (n:=3) elP szP zePart rfl byP hg hglen (mk x)
 rw[<-hti]at a2
 obtain⟨e',he'⟩:∃e',e'=D.os X.length 0 ((optJ W A t.fares.length i m++(l'.take q).map mk).length+1) false:=⟨_,rfl⟩
 rw[<-he']at a1 a2
 have a1:dAppend Tryz.prog X 37 37 d (.sl 4 [[.int .i64 i,.int .i64 j,.int .i64 x.fa,.int .i64 x.am]] true)=some (e',S'):=by rw[hmkx]at a1;exact a1
 have hkd:∀k o,k<V.length+2->X[k]?=some o->S'[k]?=some o:=λk o hk ho=>a4 k o (λn' hn=>by have:=hdB k n' hn;omega) ho
 have hP2:=hP.keep hkd
 have hP3:=hP2.setO i e'
 have gx2:=a4 _ _ (λn' hn=>by have:=hdT _ n' hn;omega) gx
 have gS:=hP.row
 have gS2:=hP2.row
 have go:=hP.ob
 have go2:=hP2.ob
 have hdl:=hP.dl
 have hil:i<ds.length:=by omega
 have hi1:(0<=(i:Int))=True:=eq_true (by omega)
 have hi2:((i:Int)<(w.length:Int))=True:=eq_true (by omega)
 have hmo:∀e:D,(ds.map λd=>[d]).set i [e]=(ds.set i e).map λd=>[d]:=λe=>(List.map_set ..).symm
 have hone:e'.one=true:=by rw[he'];rfl
 have hcel:e'.cells=[e']:=by rw[he'];rfl
 simp only[D.cells]at hcel
 simp only[D.one]at hone
 refine wc_scut (λa Y=>Y=S'.set V.length (.row 1 ((ds.set i e').map λd=>[d]))/\a.length=148/\a[0]?=some (.loc kS 0 0)/\a[2]?=some (.int .i64 w.length)/\a[3]?=some (.int .i64 i)/\a[4]?=some (.int .i64 j)/\a[76]?=some (r0)/\a[77]?=some (.int .i64 l'.length)/\a[78]?=some (.int .i64 q)/\a[7]?=some (.loc T.length 0 0)) ?_ ?_
 ·rw[wc_plan (p:=steps [0,1,2,4,5,6,7,8,9,10,11,12,13,14,15,16,17,18,19] (.both (steps [3,20,21,22] .done) (steps [20,3,21,22] .done))) rfl]
  rw[wp_pick rfl]
  simp only[opsOf,Yw,Zb,Yk,Yl,Yh]
  simp(maxSteps:=1000000)(disch:=omega)only[push_cast,hal,h0,h3,h4,h7,gS,go,gx,hi1,hi2,hdi,↓WX,simprocAttr]
  apply wp_both
  ·rw[wp_pick rfl]
   simp only[opsOf,Yw,Zb,Yk,Yl,Yh]
   simp(maxSteps:=1000000)(disch:=omega)only[push_cast,hal,gS,go2,a1,hi1,hi2,hdi,hmo,hone,hcel,wp_done,↓set_sorti,id_eq,↓WX,simprocAttr]
   exact⟨rfl,rfl⟩
  ·rw[wp_pick rfl]
   simp only[opsOf,Yw,Zb,Yk,Yl,Yh]
   simp(maxSteps:=1000000)(disch:=omega)only[push_cast,hal,gS2,go2,a1,hi1,hi2,hdi,hmo,hone,hcel,wp_done,↓set_sorti,id_eq,↓WX,simprocAttr]
  ·simp(maxSteps:=1000000)(disch:=omega)only[push_cast,hal,h0,h2,h3,h4,h76,h77,h78,h7,simprocAttr]
 clear hal h0 h2 h3 h4 h76 h77 h78 h7 a
 rintro a Y ⟨hY,hal,h0,h2,h3,h4,h76,h77,h78,h7⟩
 rw[<-hY]at hP3
 have gxY:Y[T.length]?=some (.row 4 [[.int .i64 x.fr,.int .i64 x.to,.int .i64 x.fa,.int .i64 x.am]]):=by rw[hY,Yc (by omega)];exact gx2
 have gSY:∀ {e:D} {c:List Prt},GL 4 Prt.enc S' e c->GL 4 Prt.enc Y e c:=λg=>g.imp id λ⟨k,e,g⟩=>⟨k,e,by rw[hY];exact set_keepz hP2.ob (by decide) _ _ g⟩
 have hDY:∀(i':Nat) d',i<i'->(ds.set i e')[i']?=some d'->GL 4 Prt.enc Y d' (optF W A t.fares.length w.length i')/\∀k m,d'=.os k 0 m false->V.length+2<=k/\k<B:=λi' d' h1 h2=>by
  rw[Yc (by omega)]at h2
  obtain⟨g1,g2⟩:=hD i' d' h1 h2
  refine⟨gSY ((gTX g1).imp id λ⟨k,e,g⟩=>⟨k,e,a4 k _ (λn' hn=>?_) g⟩),g2⟩
  have:=(g2 k _ e).2
  have:=hdB k n' hn
  omega
 have hdiY:(ds.set i e')[i]?=some e':=Yo hil
 have hgY:=gSY a2
 have hdBY:∀k m,e'=.os k 0 m false->B<=k:=λk m h=>by rw[he']at h;obtain⟨rfl,-⟩:=D.os.inj h;omega
 have hgrY:=gSY (hgr.imp id λ⟨k,e,g⟩=>⟨k,e,a4 k _ (λn' hn=>hne k n' _ hn e) g⟩)
 have hneY:∀k m m',e'=.os k 0 m false->r0=.os k 0 m' false->False:=λk m m' h1 h2=>by rw[he']at h1;obtain⟨rfl,-⟩:=D.os.inj h1;exact absurd (GL.lt hgr _ m' h2) (Zv _)
 have hZY:∀i',i'<i->(ds.set i e')[i']?=some .nils:=λi' h=>by rw[Yc (by omega)];exact hZ i' h
 have hBY:B<=Y.length:=by rw[hY,Zg];omega
 have hfold:(optJ W A t.fares.length i m++(l'.take (q+1)).map mk).foldl (lstS (srcF W A pctF p t w s).least) none=lstS (srcF W A pctF p t w s).least ((optJ W A t.fares.length i m++(l'.take q).map mk).foldl (lstS (srcF W A pctF p t w s).least) none) (mk x):=by rw[hti,List.foldl_append];rfl
 have hOb:∀b,(optJ W A t.fares.length i m++(l'.take q).map mk).foldl (lstS (srcF W A pctF p t w s).least) none=some b->0<=b:=λb hb=>by
  rcases ((lstS_fold _ none).2 b hb).1 with h | ⟨y,hy,v,hv,rfl⟩
  ·cases h
  ·have h1:0<=y.am:=by
    rcases List.mem_append.1 hy with hy |hy
    ·rw[hA]at hy
     exact (optJ_am ht hy).1
    ·obtain⟨z,hz,rfl⟩:=Zy.1 hy
     rw[hmk]
     have h2:z∈l':=List.mem_of_mem_take hz
     rw[hl']at h2
     exact (fasF_am ht h2).1
   rw[hA]at hv
   have:=(lst_in ht hv).1
   omega
 generalize (optJ W A t.fares.length i m++(l'.take q).map mk).foldl (lstS (srcF W A pctF p t w s).least) none=O at*
 have hLj:=hL j (by omega) (by omega)
 have hrb:∀r,(srcF W A pctF p t w s).least j=some r->0<=r/\r<=1125899906842624:=λr h=>by
  rw[hA]at h
  have h:=lst_in ht h
  have:(w.length-j:Nat)<=800:=by omega
  omega
 have hxa:0<=x.am/\x.am<=1099511627776:=fasF_am ht (by rw[<-hl'];exact Yg hx)
 have hnew:lstS (srcF W A pctF p t w s).least O (mk x)=lstN ((srcF W A pctF p t w s).least j) O x.am:=by rw[hmkx];exact lstS_N
 rw[hnew]at hfold
 clear hnew
 generalize (srcF W A pctF p t w s).least j=rj at*
 have gS3:=hP3.row
 have gl3:=hP3.lb
 have hll3:=hP3.ll
 have hj1:(0<=(j:Int))=True:=eq_true (by omega)
 have hj2:((j:Int)<(w.length:Int)+1)=True:=eq_true (by omega)
 have hi3:((i:Int)<(w.length:Int)+1)=True:=eq_true (by omega)
 have hjl:j<Ls.length:=by omega
 have hil3:i<Ls.length:=by omega
 refine wc_scut (λa Z=>Z=Y/\a.length=148/\a[0]?=some (.loc kS 0 0)/\a[2]?=some (.int .i64 w.length)/\a[3]?=some (.int .i64 i)/\a[4]?=some (.int .i64 j)/\a[76]?=some (r0)/\a[77]?=some (.int .i64 l'.length)/\a[78]?=some (.int .i64 q)/\a[7]?=some (.loc T.length 0 0)/\a[8]?=some (.int .i64 (lsI rj))) ?_ ?_
 ·simp(maxSteps:=1000000)(disch:=omega)only[push_cast,hal,h0,h2,h3,h4,h76,h77,h78,h7,gS3,gl3,hj1,hj2,hLj,encZ,↓WX,simprocAttr]
 clear hal h0 h2 h3 h4 h76 h77 h78 h7 a
 rintro a Z ⟨rfl,hal,h0,h2,h3,h4,h76,h77,h78,h7,h8⟩
 clear hP hP2 hD hdi hg hdB hne hgr hZ gTX gSY gx gx2 gS gS2 go go2 a1 a2 a4 hkd hmo hone hcel hY
 have hst:∀v:Int,Pre p t w wx s sale V kS (Z.set (V.length+1) (.row 1 ((Ls.set i v).map encZ))) (ds.set i e') (Ls.set i v):=λv=>hP3.setL i v
 have hsK:∀(v:Int) {e:D} {c:List Prt},GL 4 Prt.enc Z e c->GL 4 Prt.enc (Z.set (V.length+1) (.row 1 ((Ls.set i v).map encZ))) e c:=λv e c g=>g.imp id λ⟨k,e,g⟩=>⟨k,e,set_keepz hP3.lb (by decide) _ _ g⟩
 have hmp:∀v:Int,(Ls.map encZ).set i [.int .i64 v]=(Ls.set i v).map encZ:=λv=>(List.map_set ..).symm
 cases rj with
 |none=>
  have hm1:lsI none= -1:=rfl
  have hfold:_=O:=hfold
  simp(maxSteps:=1000000)(disch:=omega)only[push_cast,not_true_eq_false,hal,h0,h2,h3,h4,h76,h77,h78,h8,hm1,hqlt,decide_false,wrap_ok,Int.natCast_add,Int.natCast_one,↓WX,simprocAttr]
  exact⟨_,Ls,e',hP3,hBY,hDY,hdiY,hgY,hdBY,hneY,hgrY,hL,by rw[hfold];exact hLi,hZY⟩
 |some r=>
  obtain⟨r0',r1'⟩:=hrb r rfl
  have hm1:lsI (some r)=r:=rfl
  have hr1:(r= -1)=False:=eq_false (by omega)
  have hwv:IntKind.i64.wrap (x.am+r)=x.am+r:=wrap_ok (by omega) (by omega)
  have fin:(optJ W A t.fares.length i m++(l'.take (q+1)).map mk).foldl (lstS (srcF W A pctF p t w s).least) none=some (x.am+r)->(Ls.set i (x.am+r))[i]?=some (lsI ((optJ W A t.fares.length i m++(l'.take (q+1)).map mk).foldl (lstS (srcF W A pctF p t w s).least) none)):=λh=>by rw[h];exact Yo hil3
  have hL':∀i',i<i'->i'<=w.length->(Ls.set i (x.am+r))[i']?=some (lsI ((srcF W A pctF p t w s).least i')):=λi' h1 h2=>by rw[Yc (by omega)];exact hL i' h1 h2
  have hDs:∀(i':Nat) d',i<i'->(ds.set i e')[i']?=some d'->GL 4 Prt.enc (Z.set (V.length+1) (.row 1 ((Ls.set i (x.am+r)).map encZ))) d' (optF W A t.fares.length w.length i')/\∀k m,d'=.os k 0 m false->V.length+2<=k/\k<B:=λi' d' h1 h2=>⟨hsK _ (hDY i' d' h1 h2).1,(hDY i' d' h1 h2).2⟩
  have hBs:B<=(Z.set (V.length+1) (.row 1 ((Ls.set i (x.am+r)).map encZ))).length:=by rw[Zg];exact hBY
  have hPs:=hst (x.am+r)
  have hgs:=hsK (x.am+r) hgY
  have hgrs:=hsK (x.am+r) hgrY
  have hmv:=hmp (x.am+r)
  obtain⟨Z2,hZ2⟩:∃Z2,Z.set (V.length+1) (Ob.row 1 ((Ls.set i (x.am+r)).map encZ))=Z2:=⟨_,rfl⟩
  rw[hZ2]at hPs hgs hgrs hBs
  simp only[hZ2]at hDs
  cases O with
  |none=>
   have hm2:lsI none= -1:=rfl
   have hfin2:=fin hfold
   rw[hm2]at hLi
   simp(maxSteps:=1000000)(disch:=omega)only[push_cast,not_false_eq_true,hal,h0,h2,h3,h4,h76,h77,h78,h7,h8,hm1,hr1,gS3,gl3,gxY,hi1,hi3,hLi,hwv,hmv,hZ2,hqlt,encZ,wrap_ok,Int.natCast_add,Int.natCast_one,decide_true,↓WX,simprocAttr]
   exact⟨_,_,e',hPs,hBs,hDs,hdiY,hgs,hdBY,hneY,hgrs,hL',hfin2,hZY⟩
  |some b=>
   have hb0:=hOb b rfl
   have hm2:lsI (some b)=b:=rfl
   have hb1:(b= -1)=False:=eq_false (by omega)
   rw[hm2]at hLi
   by_cases c:x.am+r<b
   ·have hfin2:=fin (by rw[hfold];exact if_pos c)
    have c':(x.am+r<b)=True:=eq_true c
    simp(maxSteps:=1000000)(disch:=omega)only[push_cast,not_false_eq_true,hal,h0,h2,h3,h4,h76,h77,h78,h7,h8,hm1,hr1,gS3,gl3,gxY,hi1,hi3,hLi,hwv,hmv,hZ2,hqlt,encZ,wrap_ok,Int.natCast_add,Int.natCast_one,hb1,c',decide_false,decide_true,↓WX,simprocAttr]
    exact⟨_,_,e',hPs,hBs,hDs,hdiY,hgs,hdBY,hneY,hgrs,hL',hfin2,hZY⟩
   ·have hfin3:(optJ W A t.fares.length i m++(l'.take (q+1)).map mk).foldl (lstS (srcF W A pctF p t w s).least) none=some b:=by rw[hfold];exact if_neg c
    have c':(x.am+r<b)=False:=eq_false c
    simp(maxSteps:=1000000)(disch:=omega)only[push_cast,not_false_eq_true,hal,h0,h2,h3,h4,h76,h77,h78,h7,h8,hm1,hr1,gS3,gl3,gxY,hi1,hi3,hLi,hwv,hqlt,encZ,wrap_ok,Int.natCast_add,Int.natCast_one,hb1,c',decide_false,decide_true,↓WX,simprocAttr]
    exact⟨_,Ls,e',hP3,hBY,hDY,hdiY,hgY,hdBY,hneY,hgrY,hL,by rw[hfin3];exact hLi,hZY⟩
end
end Go.Proofs.YtaklebjoenophaaGreat.Dm
