/-
  The sums of a price: the reference, exactly (but for the percentage, which is a function).
-/
import Derived.Test.YtaklebjoenophaaGreatPqD
set_option linter.unusedSimpArgs false
set_option linter.unusedVariables false
namespace Go.Proofs.YtaklebjoenophaaGreat.Dm
open Go Gw
set_option linter.unusedSimpArgs false
set_option linter.unusedSimpArgs false
def famF:List Int→Int→Option Int
 | [],f=>some f
 |x::xs,f=>if x>1099511627776∨IntKind.i64.wrap (f+x)>1099511627776 then none else famF xs (IntKind.i64.wrap (f+x))
def sumsF (pct:Int→Int→Int×Int) (p:Plc) (t:Trf) (w:List Wnt) (s:ByteArray) (l:List Prt):Option (Int×List (ByteArray×Int)×Int):=
 match famF (l.map Prt.am) 0 with
 |none=>none
 |some f=>if (taxF pct p w s f t.taxes []).2=0 then match famF ((taxF pct p w s f t.taxes []).1.map (·.2)) f with
   |none=>none
   |some u=>some (f,(taxF pct p w s f t.taxes []).1,u)
  else none
theorem taxF_len {pct:Int→Int→Int×Int} {p:Plc} {w:List Wnt} {s:ByteArray} {fare:Int}:∀(l:List Tx) (acc:List (ByteArray×Int)),(taxF pct p w s fare l acc).1.length≤acc.length+l.length
 | [],acc=>Nat.le_refl _
 |x::xs,acc=>by
  unfold taxF
  rw[List.length_cons]
  split
  ·split
   ·exact Nat.zero_le _
   ·split
    ·have:=taxF_len (pct:=pct) (p:=p) (w:=w) (s:=s) (fare:=fare) xs acc;omega
    ·have:=taxF_len (pct:=pct) (p:=p) (w:=w) (s:=s) (fare:=fare) xs (acc++[(x.code,(axF pct (timF p x w s) x fare).1)])
     rw[List.length_append,List.length_singleton]at this
     omega
  ·exact Nat.zero_le _
theorem sumsF_len {pct:Int→Int→Int×Int} {p:Plc} {t:Trf} {w:List Wnt} {s:ByteArray} {l:List Prt} {z:Int×List (ByteArray×Int)×Int} (h:sumsF pct p t w s l=some z):z.2.1.length≤t.taxes.length:=by
 unfold sumsF at h
 split at h
 ·cases h
 ·rename_i f _
  split at h
  ·split at h
   ·cases h
   ·obtain rfl:=Option.some.inj h
    have:=taxF_len (pct:=pct) (p:=p) (w:=w) (s:=s) (fare:=f) t.taxes []
    simpa using this
  ·cases h
section
variable {n : Nat}
set_option maxHeartbeats 8000000 in
set_option maxRecDepth 100000 in
theorem segs28_d (l:List Wnt) (lx:Bool) (hl:l.length≤1000) (hn:2000≤n):WO (dcall E (n+1) 94 [.sl 8 (l.map Wnt.enc) lx] []) fun r T=>GL 7 Wnt.seg T r l:=by
 have ap:∀ {T:List Ob} {d:D} {cs:List Wnt},GL 7 Wnt.seg T d cs→cs.length≤100000→∀c:Wnt,∃S',dAppend Tryz.prog T 152 152 d (.sl 7 [c.seg] true)=some (.os T.length 0 (cs.length+1) false,S')∧GL 7 Wnt.seg S' (.os T.length 0 (cs.length+1) false) (cs++[c]):=fun h hc c=>by
  obtain⟨S',a1,a2,-⟩:=app_gl (t:=152) (e:=75) (z:=.agg [.str (ByteArray.mk #[]),.int .i64 0,.int .i64 0,.str (ByteArray.mk #[]),.str (ByteArray.mk #[]),.int .i64 0,.int .i64 0]) (n:=6) (by kernel_rfl) (by kernel_rfl) (by kernel_rfl) rfl (Nat.le_of_ble_eq_true (by kernel_rfl)) h hc c
  exact⟨S',a1,a2⟩
 refine wo_dcall Tryz.func94 rfl (by decide) rfl 20 rfl (fun a hal ha=>?_)
 have h0:a[0]? =some (.sl 8 (l.map Wnt.enc) lx):=ha 0 (by simp)
 clear ha
 simp(maxSteps:=1000000)(disch:=omega)only[push_cast,decide_not,decide_eq_true_eq,decide_eq_false_iff_not,bne_eq_false_iff_eq,beq_eq_false_iff_ne,gt_iff_lt,ne_eq,not_true_eq_false,not_false_eq_true,hal,h0,↓WX,simprocAttr]
 refine wl_loop (fun i a T=>(∃d,a[3]? =some d∧GL 7 Wnt.seg T d (l.take i))∧a.length=20∧a[0]? =some (.sl 8 (l.map Wnt.enc) lx)∧a[4]? =some (.int .i64 i)) l.length ?_ (by omega) ?_
 ·simp(maxSteps:=1000000)(disch:=omega)only[push_cast,decide_not,decide_eq_true_eq,decide_eq_false_iff_not,bne_eq_false_iff_eq,beq_eq_false_iff_ne,gt_iff_lt,ne_eq,not_true_eq_false,not_false_eq_true,hal,h0,Int.natCast_zero,↓WX,simprocAttr]
  exact⟨_,rfl,GL.nil⟩
 clear hal h0 a
 rintro i a T hi ⟨⟨d,h3,hg⟩,hal,h0,h4⟩
 rcases Nat.lt_or_eq_of_le hi with hlt |rfl
 case inr=>
  rw[List.take_length]at hg
  simp(maxSteps:=1000000)(disch:=omega)only[push_cast,decide_not,decide_eq_true_eq,decide_eq_false_iff_not,bne_eq_false_iff_eq,beq_eq_false_iff_ne,gt_iff_lt,ne_eq,not_true_eq_false,not_false_eq_true,hal,h0,h3,h4,Int.lt_irrefl,Tryz.f94,↓WX,simprocAttr]
  exact hg
 have hltc:(i:Int)<l.length:=by omega
 obtain⟨x,hx⟩:∃x,l[i]? =some x:=⟨l[i],by simp⟩
 have hti:(l.take (i+1))=l.take i++[x]:=by rw[List.take_add_one,hx];rfl
 obtain⟨S',a1,a2⟩:=ap hg (by rw[List.length_take];omega) x
 simp only[Wnt.seg]at a1
 simp(maxSteps:=1000000)(disch:=omega)only[push_cast,decide_not,decide_eq_true_eq,decide_eq_false_iff_not,bne_eq_false_iff_eq,beq_eq_false_iff_ne,gt_iff_lt,ne_eq,not_true_eq_false,not_false_eq_true,hal,h0,h3,h4,hlt,hltc,hx,a1,Wnt.enc,wrap_ok,Int.natCast_add,Int.natCast_one,↓WX,simprocAttr]
 exact⟨_,rfl,by rw[hti];exact a2⟩
theorem segs28_x (l:List Wnt) (lx:Bool) (hl:l.length≤1000) (hl0:l≠[]) (hn:2001≤n):∃x,∀st S,callD E (dcall E n) st S 94 [.sl 8 (l.map Wnt.enc) lx]=some (.sl 7 (l.map Wnt.seg) x,S):=by
 obtain⟨m,rfl⟩:∃m,n=m+1:=⟨n-1,by omega⟩
 obtain⟨d,T,ho,hg⟩:=segs28_d (n:=m) l lx hl (by omega)
 obtain⟨d',hf,hd⟩:=hg.flsN (Segs_pure _) 38
 rcases hd with ⟨-,h⟩ | ⟨x,rfl⟩
 ·exact (hl0 h).elim
 ·exact⟨x,fun st S=>callD_pure rfl (by simp only[pureL_cons,pureL_nil,D.pure,Wnts_pure,Bool.and_true]) ho hf⟩
set_option maxHeartbeats 32000000 in
set_option maxRecDepth 100000 in
theorem sums28_d {S:List Ob} (pct:Int→Int→Int×Int) (hpc:∀x y st S,callD E (dcall E n) st S 143 [.int .i64 x,.int .i64 y]=some (.tup [.int .i64 (pct x y).1,.int .i64 (pct x y).2],S)) (p:Plc) (hpa:p.aps.length≤1048576) (t:Trf) (htl:t.taxes.length≤90000) (hlf:∀x∈t.taxes,x.free.length≤1048576) (w:List Wnt) (wx:Bool) (hw:w.length≤1000) (hw0:w≠[]) (s:ByteArray) {d:D} {l:List Prt} (h:LQ 4 Prt.enc S d l) (hl:l.length≤900) (hn:1048900≤n):
  WO (dcall E (n+1+1) 36 [.agg p.enc,.agg t.enc,.sl 8 (w.map Wnt.enc) wx,.str s,d] S) fun r T=>(∃J,T=S++J)∧match sumsF pct p t w s l with
   |none=>∃q,q=.agg [.nils,.nils,.nils,.int .i64 0,.int .i64 0]∧r=.tup [q,.bool false]
   |some z=>∃dt,r=.tup [.agg [d,.nils,dt,.int .i64 z.1,.int .i64 z.2.2],.bool true]∧FLs 2 encCh dt z.2.1:=by
 have hy:=lq_len Tryz.underlying37 h
 simp only[push_cast]at hy
 have od:=h.one
 have oc:d.cells=[d]:=by rcases h with ⟨rfl,-⟩ | ⟨x,rfl,-⟩ | ⟨k,rfl,-⟩ <;> rfl
 simp only[D.one]at od
 simp only[D.cells]at oc
 obtain⟨wy,csg⟩:=segs28_x (n:=n+1) w wx hw hw0 (by omega)
 have cof:=fun f=>Of27_x pct hpc p hpa t.taxes t.tx htl hlf w wy (by omega) s f (by omega)
 obtain⟨q,hq⟩:∃q,q=sumsF pct p t w s l:=⟨_,rfl⟩
 rw[←hq]
 unfold sumsF at hq
 simp only[Plc.enc,Trf.enc]at cof ⊢
 obtain⟨R0,hR0⟩:∃R0,R0=Ob.row 2 [[.sl 5 (p.aps.map Apt.enc) p.apsx,.sl 3 (p.dts.map Dst.enc) p.dtsx]]:=⟨_,rfl⟩
 obtain⟨R1,hR1⟩:∃R1,R1=Ob.row 4 [[.sl 9 (t.fares.map Far.enc) t.fx,.sl 15 (t.rules.map Rul.enc) t.rx,.sl 3 (t.rous.map Rou.enc) t.ox,.sl 7 (t.taxes.map Tx.enc) t.tx]]:=⟨_,rfl⟩
 obtain⟨R2,hR2⟩:∃R2,R2=Ob.row 5 [[.nils,.nils,.nils,.int .i64 0,.int .i64 0]]:=⟨_,rfl⟩
 refine wo_dcall Tryz.func36 rfl (by decide) rfl 94 rfl (fun a hal ha=>?_)
 have h0:a[0]? =some (.agg [.sl 5 (p.aps.map Apt.enc) p.apsx,.sl 3 (p.dts.map Dst.enc) p.dtsx]):=ha 0 (by simp)
 have h1:a[1]? =some (.agg [.sl 9 (t.fares.map Far.enc) t.fx,.sl 15 (t.rules.map Rul.enc) t.rx,.sl 3 (t.rous.map Rou.enc) t.ox,.sl 7 (t.taxes.map Tx.enc) t.tx]):=ha 1 (by simp)
 have h2:a[2]? =some (.sl 8 (w.map Wnt.enc) wx):=ha 2 (by simp)
 have h3:a[3]? =some (.str s):=ha 3 (by simp)
 have h4:a[4]? =some (d):=ha 4 (by simp)
 clear ha
 refine wc_scut (fun a V=>V=S++[R0]++[R1]++[R2]∧a.length=94∧a[2]? =some (.sl 8 (w.map Wnt.enc) wx)∧a[3]? =some (.str s)∧a[4]? =some (d)∧a[5]? =some (.loc S.length 0 0)∧a[6]? =some (.loc (S.length+1) 0 0)∧a[10]? =some (.loc (S.length+2) 0 0)) ?_ ?_
 ·simp(maxSteps:=1000000)(disch:=omega)only[push_cast,decide_not,decide_eq_true_eq,decide_eq_false_iff_not,bne_eq_false_iff_eq,beq_eq_false_iff_ne,gt_iff_lt,ne_eq,not_true_eq_false,not_false_eq_true,hal,h0,h1,h2,h3,h4,hR0,hR1,hR2,List.length_append,List.length_cons,↓WX,simprocAttr]
 clear hal h0 h1 h2 h3 h4 a
 rintro a V ⟨hV,hal,h2,h3,h4,h5,h6,h10⟩
 refine wc_scut (fun a W=>W=V++[Ob.row 5 [[d,.nils,.nils,.int .i64 0,.int .i64 0]]]∧a.length=94∧a[2]? =some (.sl 8 (w.map Wnt.enc) wx)∧a[3]? =some (.str s)∧a[4]? =some (d)∧a[5]? =some (.loc S.length 0 0)∧a[6]? =some (.loc (S.length+1) 0 0)∧a[10]? =some (.loc (S.length+2) 0 0)∧a[12]? =some (.loc V.length 0 0)) ?_ ?_
 ·simp(maxSteps:=1000000)(disch:=omega)only[push_cast,decide_not,decide_eq_true_eq,decide_eq_false_iff_not,bne_eq_false_iff_eq,beq_eq_false_iff_ne,gt_iff_lt,ne_eq,not_true_eq_false,not_false_eq_true,hal,h2,h3,h4,h5,h6,h10,od,oc,List.all_cons,List.all_nil,get_end,set_end,List.length_cons,↓WX,simprocAttr]
 clear hal h2 h3 h4 h5 h6 h10 a
 rintro a W ⟨hW,hal,h2,h3,h4,h5,h6,h10,h12⟩
 have hVl:V.length=S.length+3:=by rw[hV];simp
 rw[hVl]at h12
 have gP:W[S.length]? =some (Ob.row 2 [[.sl 5 (p.aps.map Apt.enc) p.apsx,.sl 3 (p.dts.map Dst.enc) p.dtsx]]):=by rw[hW,hV,hR0];exact get_old (get_old end0)
 have gT:W[S.length+1]? =some (Ob.row 4 [[.sl 9 (t.fares.map Far.enc) t.fx,.sl 15 (t.rules.map Rul.enc) t.rx,.sl 3 (t.rous.map Rou.enc) t.ox,.sl 7 (t.taxes.map Tx.enc) t.tx]]):=by rw[hW,hV,hR1];exact get_old (get_old end1)
 have gZ:W[S.length+2]? =some (Ob.row 5 [[.nils,.nils,.nils,.int .i64 0,.int .i64 0]]):=by
  have:(S++[R0]++[R1]).length=S.length+2:=by simp
  rw[hW,hV,hR2,←this]
  exact get_old get_end
 have gQ:W[S.length+3]? =some (Ob.row 5 [[d,.nils,.nils,.int .i64 0,.int .i64 0]]):=by rw[hW,←hVl];exact get_end
 have hWl:W.length=S.length+4:=by rw[hW,List.length_append,hVl];rfl
 have hWS:∃J,W=S++J:=⟨[R0]++([R1]++([R2]++[Ob.row 5 [[d,.nils,.nils,.int .i64 0,.int .i64 0]]])),by rw[hW,hV];simp only[List.append_assoc]⟩
 have h:=h.ext (T:=W) (by obtain⟨J,e⟩:=hWS;rw[e];exact extS_app)
 clear hV hW hVl hR0 hR1 hR2 R0 R1 R2
 -- the sums of the fares
 have key:∀(r:Ob),∃J,W.set (S.length+3) r=S++J:=fun r=>by
  obtain⟨J,e⟩:=hWS
  exact⟨J.set 3 r,by rw[e,List.set_append_right _ _ (by omega),Nat.add_sub_cancel_left]⟩
 have keyZ:∀(r r':Ob),∃J,(W.set (S.length+3) r).set (S.length+2) r'=S++J:=fun r r'=>by
  obtain⟨J,e⟩:=key r
  exact⟨J.set 2 r',by rw[e,List.set_append_right _ _ (by omega),Nat.add_sub_cancel_left]⟩
 have z2:∀r,(W.set (S.length+3) r)[S.length+2]? =some (Ob.row 5 [[.nils,.nils,.nils,.int .i64 0,.int .i64 0]]):=fun r=>by rw[List.getElem?_set_ne (by omega)];exact gZ
 have z3:∀r,(W.set (S.length+3) r)[S.length+3]? =some r:=fun r=>List.getElem?_set_self (by omega)
 have zP:∀r,(W.set (S.length+3) r)[S.length]? =some (Ob.row 2 [[.sl 5 (p.aps.map Apt.enc) p.apsx,.sl 3 (p.dts.map Dst.enc) p.dtsx]]):=fun r=>by rw[List.getElem?_set_ne (by omega)];exact gP
 have zT:∀r,(W.set (S.length+3) r)[S.length+1]? =some (Ob.row 4 [[.sl 9 (t.fares.map Far.enc) t.fx,.sl 15 (t.rules.map Rul.enc) t.rx,.sl 3 (t.rous.map Rou.enc) t.ox,.sl 7 (t.taxes.map Tx.enc) t.tx]]):=fun r=>by rw[List.getElem?_set_ne (by omega)];exact gT
 have lW:∀r,(W.set (S.length+3) r).length=S.length+4:=fun r=>by rw[List.length_set,hWl]
 have hlk:∀r,LQ 4 Prt.enc (W.set (S.length+3) r) d l:=fun r=>by
  rcases h with h | ⟨x,h,-⟩ | ⟨k,h,hk⟩
  ·exact .inl h
  ·exact FLs.lq (.inr ⟨x,h⟩)
  ·have hk:=hk []
   rw[List.append_nil]at hk
   have hne:S.length+3≠k:=fun e=>by
    subst e
    rw[gQ]at hk
    injection hk with hk
    injection hk with hk _
    cases hk
   have hk2:(W.set (S.length+3) r)[k]? =some (.row 4 (l.map Prt.enc)):=by rw[List.getElem?_set_ne hne];exact hk
   exact .inr (.inr ⟨k,h,fun J=>get_old hk2⟩)
 have hW3:W=W.set (S.length+3) (Ob.row 5 [[d,.nils,.nils,.int .i64 0,.int .i64 0]]):=by
  apply List.ext_getElem?
  intro i
  by_cases e:S.length+3=i
  ·subst e
   rw[z3,gQ]
  ·rw[List.getElem?_set_ne e]
 obtain⟨fo,hfo⟩:∃fo,fo=famF (l.map Prt.am) 0:=⟨_,rfl⟩
 rw[←hfo]at hq
 obtain⟨a5,ha5⟩:∃a5,a5=S.length:=⟨_,rfl⟩
 obtain⟨a6,ha6⟩:∃a6,a6=S.length+1:=⟨_,rfl⟩
 obtain⟨a10,ha10⟩:∃a10,a10=S.length+2:=⟨_,rfl⟩
 obtain⟨a12,ha12⟩:∃a12,a12=S.length+3:=⟨_,rfl⟩
 rw[←ha12]at z2 z3 zP zT lW hlk hW3 key keyZ h12
 rw[←ha10]at z2 keyZ h10
 rw[←ha6]at zT h6
 rw[←ha5]at zP h5
 have l10:∀r,a10<(W.set a12 r).length:=fun r=>by rw[lW];omega
 have l12:∀r,a12<(W.set a12 r).length:=fun r=>by rw[lW];omega
 have l10':a10<W.length:=by omega
 have l12':a12<W.length:=by omega
 clear gP gT gZ gQ h
 refine wc_rcut (fun a V=>(∃f,V=W.set a12 (Ob.row 5 [[d,.nils,.nils,.int .i64 f,.int .i64 0]])∧fo=some f)∧a.length=94∧a[2]? =some (.sl 8 (w.map Wnt.enc) wx)∧a[3]? =some (.str s)∧a[5]? =some (.loc a5 0 0)∧a[6]? =some (.loc a6 0 0)∧a[10]? =some (.loc a10 0 0)∧a[12]? =some (.loc a12 0 0)) ?_ ?_
 ·simp(maxSteps:=1000000)(disch:=omega)only[push_cast,decide_not,decide_eq_true_eq,decide_eq_false_iff_not,bne_eq_false_iff_eq,beq_eq_false_iff_ne,gt_iff_lt,ne_eq,not_true_eq_false,not_false_eq_true,hal,h2,h3,h4,h5,h6,h10,h12,↓WX,simprocAttr]
  refine wl_loop (fun i a V=>(∃f,V=W.set a12 (Ob.row 5 [[d,.nils,.nils,.int .i64 f,.int .i64 0]])∧fo=famF ((l.drop i).map Prt.am) f)∧a.length=94∧a[2]? =some (.sl 8 (w.map Wnt.enc) wx)∧a[3]? =some (.str s)∧a[4]? =some (d)∧a[5]? =some (.loc a5 0 0)∧a[6]? =some (.loc a6 0 0)∧a[10]? =some (.loc a10 0 0)∧a[12]? =some (.loc a12 0 0)∧a[13]? =some (.int .i64 i)) l.length ?_ (by omega) ?_
  ·simp(maxSteps:=1000000)(disch:=omega)only[push_cast,decide_not,decide_eq_true_eq,decide_eq_false_iff_not,bne_eq_false_iff_eq,beq_eq_false_iff_ne,gt_iff_lt,ne_eq,not_true_eq_false,not_false_eq_true,hal,h2,h3,h4,h5,h6,h10,h12,Int.natCast_zero,↓WX,simprocAttr]
   exact⟨_,hW3,hfo⟩
  clear hal h2 h3 h4 h5 h6 h10 h12 a
  clear hfo
  rintro i a V hi ⟨⟨f,hV,e⟩,hal,h2,h3,h4,h5,h6,h10,h12,h13⟩
  have v2:=z2 (Ob.row 5 [[d,.nils,.nils,.int .i64 f,.int .i64 0]])
  have v3:=z3 (Ob.row 5 [[d,.nils,.nils,.int .i64 f,.int .i64 0]])
  have vl:=l12 (Ob.row 5 [[d,.nils,.nils,.int .i64 f,.int .i64 0]])
  have vS:∀r,(W.set a12 (Ob.row 5 [[d,.nils,.nils,.int .i64 f,.int .i64 0]])).set a12 r=W.set a12 r:=fun r=>List.set_set ..
  have hla:=hlk (Ob.row 5 [[d,.nils,.nils,.int .i64 f,.int .i64 0]])
  rw[←hV]at v2 v3 vl vS hla
  rcases Nat.lt_or_eq_of_le hi with hlt |rfl
  case inr=>
   rw[List.drop_length,List.map_nil,famF]at e
   simp(maxSteps:=1000000)(disch:=omega)only[push_cast,decide_not,decide_eq_true_eq,decide_eq_false_iff_not,bne_eq_false_iff_eq,beq_eq_false_iff_ne,gt_iff_lt,ne_eq,not_true_eq_false,not_false_eq_true,hal,h2,h3,h4,h5,h6,h10,h12,h13,hy,Int.lt_irrefl,false_and,false_or,or_false,true_and,↓WX,simprocAttr]
   exact⟨_,hV,e⟩
  have hltc:(i:Int)<l.length:=by omega
  obtain⟨x,hx⟩:∃x,l[i]? =some x:=⟨l[i],by simp⟩
  rw[drop_at hx,List.map_cons,famF]at e
  generalize hg:IntKind.i64.wrap (f+x.am)=g at*
  have hlb:=hlk (Ob.row 5 [[d,.nils,.nils,.int .i64 g,.int .i64 0]])
  refine wc_scut (fun a U=>U=V∧a.length=94∧a[2]? =some (.sl 8 (w.map Wnt.enc) wx)∧a[3]? =some (.str s)∧a[4]? =some (d)∧a[5]? =some (.loc a5 0 0)∧a[6]? =some (.loc a6 0 0)∧a[10]? =some (.loc a10 0 0)∧a[12]? =some (.loc a12 0 0)∧a[13]? =some (.int .i64 i)) ?_ ?_
  ·simp(maxSteps:=1000000)(disch:=omega)only[push_cast,decide_not,decide_eq_true_eq,decide_eq_false_iff_not,bne_eq_false_iff_eq,beq_eq_false_iff_ne,gt_iff_lt,ne_eq,not_true_eq_false,not_false_eq_true,hal,h2,h3,h4,h5,h6,h10,h12,h13,hy,hltc,↓WX,simprocAttr]
  clear hal h2 h3 h4 h5 h6 h10 h12 h13 a
  rintro a U ⟨rfl,hal,h2,h3,h4,h5,h6,h10,h12,h13⟩
  rw[wc_seq,wc_block]
  refine wc_scut (fun a V=>V=W.set a12 (Ob.row 5 [[d,.nils,.nils,.int .i64 g,.int .i64 0]])∧a.length=94∧a[2]? =some (.sl 8 (w.map Wnt.enc) wx)∧a[3]? =some (.str s)∧a[4]? =some (d)∧a[5]? =some (.loc a5 0 0)∧a[6]? =some (.loc a6 0 0)∧a[10]? =some (.loc a10 0 0)∧a[12]? =some (.loc a12 0 0)∧a[13]? =some (.int .i64 i)) ?_ ?_
  ·rcases hla with ⟨-,rfl⟩ | ⟨lx,rfl,hk⟩ | ⟨kk,rfl,hk⟩
   ·cases hx
   case' inr.inr=>have hk:=hk [];rw[List.append_nil]at hk
   all_goals
    simp(maxSteps:=1000000)(disch:=omega)only[push_cast,decide_not,decide_eq_true_eq,decide_eq_false_iff_not,bne_eq_false_iff_eq,beq_eq_false_iff_ne,gt_iff_lt,ne_eq,not_true_eq_false,not_false_eq_true,hal,h2,h3,h4,h5,h6,h10,h12,h13,hk,v3,vl,vS,hlt,hltc,hx,hg,Prt.enc,↓WX,simprocAttr]
  clear hal h2 h3 h4 h5 h6 h10 h12 h13 a
  rintro a V' ⟨hV',hal,h2,h3,h4,h5,h6,h10,h12,h13⟩
  have w2:=z2 (Ob.row 5 [[d,.nils,.nils,.int .i64 g,.int .i64 0]])
  have w3:=z3 (Ob.row 5 [[d,.nils,.nils,.int .i64 g,.int .i64 0]])
  have wl10:=l10 (Ob.row 5 [[d,.nils,.nils,.int .i64 g,.int .i64 0]])
  have wk:=keyZ (Ob.row 5 [[d,.nils,.nils,.int .i64 g,.int .i64 0]])
  rw[←hV']at w2 w3 wl10 wk hlb
  by_cases c1:1099511627776<x.am
  ·rw[if_pos (.inl c1)]at e
   rw[e]at hq
   subst hq
   rcases hlb with ⟨-,rfl⟩ | ⟨lx,rfl,hk⟩ | ⟨kk,rfl,hk⟩
   ·cases hx
   case' inr.inr=>have hk:=hk [];rw[List.append_nil]at hk
   all_goals
    simp(maxSteps:=1000000)(disch:=omega)only[push_cast,decide_not,decide_eq_true_eq,decide_eq_false_iff_not,bne_eq_false_iff_eq,beq_eq_false_iff_ne,gt_iff_lt,ne_eq,not_true_eq_false,not_false_eq_true,hal,h2,h3,h4,h5,h6,h10,h12,h13,hk,w2,w3,wl10,hlt,hltc,hx,c1,Prt.enc,false_and,false_or,or_false,true_and,Tryz.f36,↓WX,simprocAttr]
    exact⟨wk _,_,rfl,rfl⟩
  by_cases c2:1099511627776<g
  ·rw[if_pos (.inr c2)]at e
   rw[e]at hq
   subst hq
   rcases hlb with ⟨-,rfl⟩ | ⟨lx,rfl,hk⟩ | ⟨kk,rfl,hk⟩
   ·cases hx
   case' inr.inr=>have hk:=hk [];rw[List.append_nil]at hk
   all_goals
    simp(maxSteps:=1000000)(disch:=omega)only[push_cast,decide_not,decide_eq_true_eq,decide_eq_false_iff_not,bne_eq_false_iff_eq,beq_eq_false_iff_ne,gt_iff_lt,ne_eq,not_true_eq_false,not_false_eq_true,hal,h2,h3,h4,h5,h6,h10,h12,h13,hk,w2,w3,wl10,hlt,hltc,hx,c1,c2,Prt.enc,false_and,false_or,or_false,true_and,Tryz.f36,↓WX,simprocAttr]
    exact⟨wk _,_,rfl,rfl⟩
  rw[if_neg (fun h=>h.elim (fun h=>c1 h) (fun h=>c2 h))]at e
  rcases hlb with ⟨-,rfl⟩ | ⟨lx,rfl,hk⟩ | ⟨kk,rfl,hk⟩
  ·cases hx
  case' inr.inr=>have hk:=hk [];rw[List.append_nil]at hk
  all_goals
   simp(maxSteps:=1000000)(disch:=omega)only[push_cast,decide_not,decide_eq_true_eq,decide_eq_false_iff_not,bne_eq_false_iff_eq,beq_eq_false_iff_ne,gt_iff_lt,ne_eq,not_true_eq_false,not_false_eq_true,hal,h2,h3,h4,h5,h6,h10,h12,h13,hk,w2,w3,wl10,hlt,hltc,hx,c1,c2,Prt.enc,wrap_ok,Int.natCast_add,Int.natCast_one,↓WX,simprocAttr]
   exact⟨_,hV',e⟩
 clear hal h2 h3 h4 h5 h6 h10 h12 a
 clear hfo hlk hy
 rintro a V ⟨⟨f,rfl,rfl⟩,hal,h2,h3,h5,h6,h10,h12⟩
 dsimp only at hq
 obtain⟨dt,hdt,cof⟩:=cof f
 have htll:=taxF_len (pct:=pct) (p:=p) (w:=w) (s:=s) (fare:=f) t.taxes []
 rw[List.length_nil,Nat.zero_add]at htll
 generalize taxF pct p w s f t.taxes []=tx at*
 obtain⟨tl,te⟩:=tx
 dsimp only at*
 refine wc_scut (fun a V=>V=W.set a12 (Ob.row 5 [[d,.nils,.nils,.int .i64 f,.int .i64 0]])∧a.length=94∧a[10]? =some (.loc a10 0 0)∧a[12]? =some (.loc a12 0 0)∧a[14]? =some (dt)∧a[15]? =some (.int .i64 te)) ?_ ?_
 ·simp(maxSteps:=1000000)(disch:=omega)only[push_cast,decide_not,decide_eq_true_eq,decide_eq_false_iff_not,bne_eq_false_iff_eq,beq_eq_false_iff_ne,gt_iff_lt,ne_eq,not_true_eq_false,not_false_eq_true,hal,h2,h3,h5,h6,h10,h12,zP,zT,z3,csg,cof,↓WX,simprocAttr]
 clear hal h2 h3 h5 h6 h10 h12 a
 rintro a V ⟨rfl,hal,h10,h12,h14,h15⟩
 by_cases c:te=0
 case neg=>
  rw[if_neg c]at hq
  subst hq
  simp(maxSteps:=1000000)(disch:=omega)only[push_cast,decide_not,decide_eq_true_eq,decide_eq_false_iff_not,bne_eq_false_iff_eq,beq_eq_false_iff_ne,gt_iff_lt,ne_eq,not_true_eq_false,not_false_eq_true,hal,h10,h12,h14,h15,z2,z3,l10',l12',c,decide_false,Bool.not_false,Tryz.f36,↓WX,simprocAttr]
  exact⟨keyZ _ _,_,rfl,rfl⟩
 rw[if_pos c]at hq
 subst c
 have odt:=fls_one hdt
 simp only[D.one]at odt
 have oct:dt.cells=[dt]:=by rcases hdt with ⟨rfl,-⟩ | ⟨x,rfl⟩ <;> rfl
 simp only[D.cells]at oct
 refine wc_scut (fun a V=>V=W.set a12 (Ob.row 5 [[d,.nils,.nils,.int .i64 f,.int .i64 0]])∧a.length=94∧a[10]? =some (.loc a10 0 0)∧a[12]? =some (.loc a12 0 0)∧a[14]? =some (dt)) ?_ ?_
 ·simp(maxSteps:=1000000)(disch:=omega)only[push_cast,decide_not,decide_eq_true_eq,decide_eq_false_iff_not,bne_eq_false_iff_eq,beq_eq_false_iff_ne,gt_iff_lt,ne_eq,not_true_eq_false,not_false_eq_true,hal,h10,h12,h14,h15,decide_true,Bool.not_true,↓WX,simprocAttr]
 clear hal h10 h12 h14 h15 a
 rintro a V ⟨rfl,hal,h10,h12,h14⟩
 refine wc_scut (fun a V=>V=W.set a12 (Ob.row 5 [[d,.nils,dt,.int .i64 f,.int .i64 0]])∧a.length=94∧a[10]? =some (.loc a10 0 0)∧a[12]? =some (.loc a12 0 0)∧a[14]? =some (dt)) ?_ ?_
 ·simp(maxSteps:=1000000)(disch:=omega)only[push_cast,decide_not,decide_eq_true_eq,decide_eq_false_iff_not,bne_eq_false_iff_eq,beq_eq_false_iff_ne,gt_iff_lt,ne_eq,not_true_eq_false,not_false_eq_true,hal,h10,h12,h14,z3,l12',odt,oct,List.all_cons,List.all_nil,List.length_cons,List.set_set,↓WX,simprocAttr]
 clear hal h10 h12 h14 a
 rintro a V ⟨rfl,hal,h10,h12,h14⟩
 refine wc_scut (fun a V=>V=W.set a12 (Ob.row 5 [[d,.nils,dt,.int .i64 f,.int .i64 f]])∧a.length=94∧a[10]? =some (.loc a10 0 0)∧a[12]? =some (.loc a12 0 0)∧a[14]? =some (dt)) ?_ ?_
 ·simp(maxSteps:=1000000)(disch:=omega)only[push_cast,decide_not,decide_eq_true_eq,decide_eq_false_iff_not,bne_eq_false_iff_eq,beq_eq_false_iff_ne,gt_iff_lt,ne_eq,not_true_eq_false,not_false_eq_true,hal,h10,h12,h14,z3,l12',List.set_set,↓WX,simprocAttr]
 clear hal h10 h12 h14 a
 rintro a V ⟨rfl,hal,h10,h12,h14⟩
 have hyt:=fun S=>fls_len (S:=S) Tryz.underlying39 hdt
 simp only[push_cast]at hyt
 obtain⟨uo,huo⟩:∃uo,uo=famF (tl.map (·.2)) f:=⟨_,rfl⟩
 rw[←huo]at hq
 refine wc_rcut (fun a V=>(∃u,V=W.set a12 (Ob.row 5 [[d,.nils,dt,.int .i64 f,.int .i64 u]])∧uo=some u)∧a.length=94∧a[10]? =some (.loc a10 0 0)∧a[12]? =some (.loc a12 0 0)) ?_ ?_
 ·simp(maxSteps:=1000000)(disch:=omega)only[push_cast,decide_not,decide_eq_true_eq,decide_eq_false_iff_not,bne_eq_false_iff_eq,beq_eq_false_iff_ne,gt_iff_lt,ne_eq,not_true_eq_false,not_false_eq_true,hal,h10,h12,h14,↓WX,simprocAttr]
  refine wl_loop (fun i a V=>(∃u,V=W.set a12 (Ob.row 5 [[d,.nils,dt,.int .i64 f,.int .i64 u]])∧uo=famF ((tl.drop i).map (·.2)) u)∧a.length=94∧a[10]? =some (.loc a10 0 0)∧a[12]? =some (.loc a12 0 0)∧a[14]? =some (dt)∧a[16]? =some (.int .i64 i)) tl.length ?_ (by have:=htll;omega) ?_
  ·simp(maxSteps:=1000000)(disch:=omega)only[push_cast,decide_not,decide_eq_true_eq,decide_eq_false_iff_not,bne_eq_false_iff_eq,beq_eq_false_iff_ne,gt_iff_lt,ne_eq,not_true_eq_false,not_false_eq_true,hal,h10,h12,h14,Int.natCast_zero,↓WX,simprocAttr]
   exact⟨_,rfl,huo⟩
  clear hal h10 h12 h14 a
  clear huo
  rintro i a V hi ⟨⟨u,hV,e⟩,hal,h10,h12,h14,h16⟩
  have v2:=z2 (Ob.row 5 [[d,.nils,dt,.int .i64 f,.int .i64 u]])
  have v3:=z3 (Ob.row 5 [[d,.nils,dt,.int .i64 f,.int .i64 u]])
  have vl:=l12 (Ob.row 5 [[d,.nils,dt,.int .i64 f,.int .i64 u]])
  have vS:∀r,(W.set a12 (Ob.row 5 [[d,.nils,dt,.int .i64 f,.int .i64 u]])).set a12 r=W.set a12 r:=fun r=>List.set_set ..
  rw[←hV]at v2 v3 vl vS
  rcases Nat.lt_or_eq_of_le hi with hlt |rfl
  case inr=>
   rw[List.drop_length,List.map_nil,famF]at e
   simp(maxSteps:=1000000)(disch:=omega)only[push_cast,decide_not,decide_eq_true_eq,decide_eq_false_iff_not,bne_eq_false_iff_eq,beq_eq_false_iff_ne,gt_iff_lt,ne_eq,not_true_eq_false,not_false_eq_true,hal,h10,h12,h14,h16,hyt,Int.lt_irrefl,false_and,false_or,or_false,true_and,↓WX,simprocAttr]
   exact⟨_,hV,e⟩
  have hltc:(i:Int)<tl.length:=by omega
  obtain⟨x,hx⟩:∃x,tl[i]? =some x:=⟨tl[i],by simp⟩
  rw[drop_at hx,List.map_cons,famF]at e
  generalize hg:IntKind.i64.wrap (u+x.2)=g at*
  rcases hdt with ⟨-,rfl⟩ | ⟨tx,rfl⟩
  ·cases hx
  by_cases c1:1099511627776<x.2
  ·rw[if_pos (.inl c1)]at e
   rw[e]at hq
   subst hq
   simp(maxSteps:=1000000)(disch:=omega)only[push_cast,decide_not,decide_eq_true_eq,decide_eq_false_iff_not,bne_eq_false_iff_eq,beq_eq_false_iff_ne,gt_iff_lt,ne_eq,not_true_eq_false,not_false_eq_true,hal,h10,h12,h14,h16,v3,vl,vS,z2,z3,l10',l12',hlt,hltc,hx,hg,c1,encCh,List.set_set,false_and,false_or,or_false,true_and,Tryz.f36,↓WX,simprocAttr]
   exact⟨keyZ _ _,_,rfl,rfl⟩
  by_cases c2:1099511627776<g
  ·rw[if_pos (.inr c2)]at e
   rw[e]at hq
   subst hq
   simp(maxSteps:=1000000)(disch:=omega)only[push_cast,decide_not,decide_eq_true_eq,decide_eq_false_iff_not,bne_eq_false_iff_eq,beq_eq_false_iff_ne,gt_iff_lt,ne_eq,not_true_eq_false,not_false_eq_true,hal,h10,h12,h14,h16,v3,vl,vS,z2,z3,l10',l12',hlt,hltc,hx,hg,c1,c2,encCh,List.set_set,false_and,false_or,or_false,true_and,Tryz.f36,↓WX,simprocAttr]
   exact⟨keyZ _ _,_,rfl,rfl⟩
  rw[if_neg (fun h=>h.elim (fun h=>c1 h) (fun h=>c2 h))]at e
  simp(maxSteps:=1000000)(disch:=omega)only[push_cast,decide_not,decide_eq_true_eq,decide_eq_false_iff_not,bne_eq_false_iff_eq,beq_eq_false_iff_ne,gt_iff_lt,ne_eq,not_true_eq_false,not_false_eq_true,hal,h10,h12,h14,h16,v3,vl,vS,z2,z3,l10',l12',hlt,hltc,hx,hg,c1,c2,encCh,List.set_set,wrap_ok,Int.natCast_add,Int.natCast_one,↓WX,simprocAttr]
  exact⟨_,rfl,e⟩
 clear hal h10 h12 h14 a
 clear huo
 rintro a V ⟨⟨u,rfl,rfl⟩,hal,h10,h12⟩
 dsimp only at hq
 subst hq
 simp(maxSteps:=1000000)(disch:=omega)only[push_cast,decide_not,decide_eq_true_eq,decide_eq_false_iff_not,bne_eq_false_iff_eq,beq_eq_false_iff_ne,gt_iff_lt,ne_eq,not_true_eq_false,not_false_eq_true,hal,h10,h12,z2,z3,l10',l12',od,oc,odt,oct,List.all_cons,List.all_nil,List.length_cons,Tryz.f36,↓WX,simprocAttr]
 exact⟨keyZ _ _,_,rfl,hdt⟩
end
end Go.Proofs.YtaklebjoenophaaGreat.Dm
