/-
  Whether a price is valid: the program, exactly, in the words of the reference's law.
  Any price is checked by the program as by the reference: as a run of the machine.
-/
import Derived.Test.YtaklebjoenophaaGreatRmF
import Derived.Test.YtaklebjoenophaaGreatPrL
import Derived.Test.YtaklebjoenophaaGreatCfG
import Derived.Test.YtaklebjoenophaaGreatPoC
import Derived.Test.YtaklebjoenophaaGreatPrK
set_option maxHeartbeats 64000000
set_option maxRecDepth 100000
set_option linter.unusedSimpArgs false
set_option linter.unusedVariables false
namespace Go.Proofs.YtaklebjoenophaaGreat.Dm
open Go Gw
def cutF (w:List Wnt) (x:Prt):List Wnt:=(w.drop x.fr.toNat).take (x.to.toNat-x.fr.toNat)
theorem cutF_tm {w:List Wnt} (h:∀u∈w,u.tm) (x:Prt):∀u∈cutF w x,u.tm:=λu hu=>h u (List.mem_of_mem_drop (List.mem_of_mem_take hu))
theorem cutF_len {w:List Wnt} {x:Prt} (h0:0<=x.fr) (h1:x.fr<x.to) (h2:x.to<=w.length):(cutF w x).length<=w.length/\cutF w x≠[]:=by
 have hl:(cutF w x).length=min (x.to.toNat-x.fr.toNat) (w.length-x.fr.toNat):=by unfold cutF;rw[Ve,Vf]
 refine⟨by omega,λe=>?_⟩
 rw[e,Vs]at hl
 omega
noncomputable def whC (p:Plc) (t:Trf) (w:List Wnt) (s:ByteArray) (sale:Int) (x:Prt):Int:=whyN p t x.fa (cutF w x) s sale
noncomputable def amC (p:Plc) (t:Trf) (w:List Wnt) (s:ByteArray) (x:Prt):Int×Int:=amtN p t x.fa (cutF w x) s
theorem fstE_mem {α:Type} {f:α->Int}:∀ {l:List α},fstE f l=0->∀x∈l,f x=0
 | [],_,x,hx=>by cases hx
 |y::ys,h,x,hx=>by
  unfold fstE at h
  split at h
  ·rename_i c
   rcases List.mem_cons.1 hx with rfl |hx
   ·exact c
   ·exact fstE_mem h x hx
  ·rename_i c
   exact (c h).elim
theorem vfE_am {p:Plc} {t:Trf} (ht:TrG t) {w:List Wnt} {s:ByteArray} {sale:Int} {l:List Prt} (h:fstE (vfE (whC p t w s sale) (amC p t w s)) l=0):∀x∈l,0<=x.am:=λx hx=>by
 have:=fstE_mem h x hx
 unfold vfE at this
 split at this
 ·split at this
  ·rename_i g
   rw[<-g.2]
   exact (amtN_in ht _ _ _).1
  ·cases this
 ·rename_i g
  exact (g this).elim
theorem check_pairs {p:Plc} {t:Trf} {w:List Wnt} {l:List Prt} (h:checkF p t w l=0):(Xq t l).2=0:=by
 unfold checkF at h
 split at h
 ·split at h
  ·rename_i c;exact c
  ·exact h
 ·cases h
theorem fstE_drop {α:Type} {f:α->Int} {l:List α} {i:Nat} {x:α} (h:l[i]?=some x):fstE f (l.drop i)=if f x=0 then fstE f (l.drop (i+1)) else f x:=by
 rw[Yu h,fstE]
section
variable {n : Nat}
theorem PValid_d {p:Plc} (hp:PlG p) {t:Trf} (ht:TrG t) (w:List Wnt) (wx:Bool) (hw:w.length<=900) (htm:∀u∈w,u.tm) (s:ByteArray) (sale:Int) (q:Quo) (hql:q.parts.length<=900) (hqp:q.pairs.length<=1048576) (hqt:q.taxes.length<=1048576) {e2 e3:D} (v2:FLs 2 Xa e2 q.pairs) (v3:FLs 2 Jf e3 q.taxes) (hn:80000011<=n):
  WO (Yb E (n+1) 13 [.agg p.enc,.agg t.enc,.sl 8 (w.map Wnt.enc) wx,.str s,.int .i64 sale,.agg [.sl 4 (q.parts.map Prt.enc) q.px,e2,e3,.int .i64 q.fare,.int .i64 q.total]] []) λr T=>r=.int .i64 (validF (whC p t w s sale) (amC p t w s) pctF p t w s q):=by
 have hqf:FLs 4 Prt.enc (.sl 4 (q.parts.map Prt.enc) q.px) q.parts:=.inr ⟨_,rfl⟩
 have cri:=Pright_x (n:=n) p t w wx s sale (by omega)
 have cco:=Pjcov_x (n:=n) p t w wx s sale q.parts q.px (by omega) (by omega) (by omega)
 have cck:=λst (S:List Ob)=>CCheck_x (n:=n) (S:=S) p hp.apl hp.sh hp.so t ht.rl ht.cb w wx hqf.lr hql (by omega) st
 have hcm:=λh=>cvF_mem (n:=(w.length:Int)) (l:=q.parts) (k:=0) h (Int.le_refl _)
 have cwhy:∀x:Prt,0<=x.fr->x.fr<x.to->x.to<=w.length->∀st S,Yi E (Yb E n) st S 28 [.agg p.enc,.agg t.enc,.int .i64 x.fa,.sl 8 (((w.map Wnt.enc).drop x.fr.toNat).take (x.to.toNat-x.fr.toNat)) (wx && decide (x.to.toNat=w.length)),.str s,.int .i64 sale]=some (.int .i64 (whC p t w s sale x),S):=λx h0 h1 h2=>by
  obtain⟨c1,c2⟩:=cutF_len h0 h1 h2
  have:=PWhy_x (n:=n) hp ht x.fa (cutF w x) (wx && decide (x.to.toNat=w.length)) (by omega) s sale (by omega)
  unfold cutF at this
  rw[List.map_take,List.map_drop]at this
  exact this
 have camt:∀x:Prt,0<=x.fr->x.fr<x.to->x.to<=w.length->∀st S,Yi E (Yb E n) st S 29 [.agg p.enc,.agg t.enc,.int .i64 x.fa,.sl 8 (((w.map Wnt.enc).drop x.fr.toNat).take (x.to.toNat-x.fr.toNat)) (wx && decide (x.to.toNat=w.length)),.str s]=some (.tup [.int .i64 (amC p t w s x).1,.int .i64 (amC p t w s x).2],S):=λx h0 h1 h2=>by
  obtain⟨c1,c2⟩:=cutF_len h0 h1 h2
  have:=PAmount_x (n:=n) hp ht x.fa (cutF w x) (wx && decide (x.to.toNat=w.length)) (by omega) s (by omega)
  unfold cutF at this
  rw[List.map_take,List.map_drop]at this
  exact this
 have hvam:=λh=>vfE_am (p:=p) (t:=t) (w:=w) (s:=s) (sale:=sale) ht (l:=q.parts) h
 have hcp:=λh=>check_pairs (p:=p) (t:=t) (w:=w) (l:=q.parts) h
 have hprc:∀(S:List Ob),w≠[]->q.parts≠[]->(∀x∈q.parts,0<=x.am)->_:=λS a b c=>Pprice_d (n:=n-1) (S:=S) hp ht w wx s sale a hw htm hqf.lr b hql c (by omega)
 obtain⟨z,hz⟩:∃z,z=validF (whC p t w s sale) (amC p t w s) pctF p t w s q:=⟨_,rfl⟩
 rw[<-hz]
 unfold validF at hz
 have hcv0:cvF q.parts 0 w.length=true->w.length≠0->q.parts≠[]:=λh h0 e=>by
  rw[e]at h
  unfold cvF at h
  have:=Vb h
  omega
 generalize cvF q.parts 0 (w.length:Int)=bc at*
 generalize checkF p t w q.parts=ck at*
 simp only[Plc.enc,Trf.enc]at cck cwhy camt ⊢
 have ov2:=Yv v2
 have ov3:=Yv v3
 simp only[D.one]at ov2 ov3
 refine Ye Tryz.func13 rfl (by decide) rfl 106 rfl (λa hal ha=>?_)
 obtain⟨h0,h1,h2,h3,h4,h5⟩:=aQ6 ha
 clear ha
 obtain⟨V0,hV0⟩:∃V0:List Ob,V0=[Ob.row 2 [[.sl 5 (p.aps.map Apt.enc) p.apsx,.sl 3 (p.dts.map Dst.enc) p.dtsx]],Ob.row 4 [[.sl 9 (t.fares.map Far.enc) t.fx,.sl 15 (t.rules.map Rul.enc) t.rx,.sl 3 (t.rous.map Rou.enc) t.ox,.sl 7 (t.taxes.map Tx.enc) t.tx]],Ob.row 5 [[.sl 4 (q.parts.map Prt.enc) q.px,e2,e3,.int .i64 q.fare,.int .i64 q.total]]]:=⟨_,rfl⟩
 have g0:∀J,(V0++J)[0]?=some (Ob.row 2 [[.sl 5 (p.aps.map Apt.enc) p.apsx,.sl 3 (p.dts.map Dst.enc) p.dtsx]]):=λJ=>by rw[hV0];rfl
 have g1:∀J,(V0++J)[1]?=some (Ob.row 4 [[.sl 9 (t.fares.map Far.enc) t.fx,.sl 15 (t.rules.map Rul.enc) t.rx,.sl 3 (t.rous.map Rou.enc) t.ox,.sl 7 (t.taxes.map Tx.enc) t.tx]]):=λJ=>by rw[hV0];rfl
 have g2:∀J,(V0++J)[2]?=some (Ob.row 5 [[.sl 4 (q.parts.map Prt.enc) q.px,e2,e3,.int .i64 q.fare,.int .i64 q.total]]):=λJ=>by rw[hV0];rfl
 have g01:V0[0]?=some (Ob.row 2 [[.sl 5 (p.aps.map Apt.enc) p.apsx,.sl 3 (p.dts.map Dst.enc) p.dtsx]]):=by rw[hV0];rfl
 have g11:V0[1]?=some (Ob.row 4 [[.sl 9 (t.fares.map Far.enc) t.fx,.sl 15 (t.rules.map Rul.enc) t.rx,.sl 3 (t.rous.map Rou.enc) t.ox,.sl 7 (t.taxes.map Tx.enc) t.tx]]):=by rw[hV0];rfl
 have hl0:V0.length=3:=by rw[hV0];rfl
 refine Ya (λa V=>V=V0/\gQ a 106 (a[11]?=some (.loc 2 0 0)) [(2,.sl 8 (w.map Wnt.enc) wx),(3,.str s),(4,.int .i64 sale),(6,.loc 0 0 0),(7,.loc 1 0 0)]) ?_ ?_
 ·simp only[push_cast,hal,h0,h1,h2,h3,h4,h5,ov2,ov3,↓WX,simprocAttr]
  exact hV0.symm
 clear hV0
 rintro a V ⟨rfl,hal,h2,h3,h4,h6,h7,h11⟩
 obtain⟨V1,hV1⟩:∃V1,V1=V++[Ob.row 9 [[.sl 5 (p.aps.map Apt.enc) p.apsx,.sl 3 (p.dts.map Dst.enc) p.dtsx,.sl 9 (t.fares.map Far.enc) t.fx,.sl 15 (t.rules.map Rul.enc) t.rx,.sl 3 (t.rous.map Rou.enc) t.ox,.sl 7 (t.taxes.map Tx.enc) t.tx,.sl 8 (w.map Wnt.enc) wx,.str s,.int .i64 sale]]]:=⟨_,rfl⟩
 refine Ya (λa W=>W=V1/\gQ a 106 (a[13]?=some (.loc V.length 0 0)) [(2,.sl 8 (w.map Wnt.enc) wx),(3,.str s),(4,.int .i64 sale),(6,.loc 0 0 0),(7,.loc 1 0 0),(11,.loc 2 0 0)]) ?_ ?_
 ·simp only[push_cast,hal,h2,h3,h4,h6,h7,h11,g01,g11,Yq,Yl,↓WX,simprocAttr]
  exact hV1.symm
 rintro a W ⟨rfl,hal,h2,h3,h4,h6,h7,h11,h13⟩
 rw[hl0]at h13
 have k0:∀J,(W++J)[0]?=some (Ob.row 2 [[.sl 5 (p.aps.map Apt.enc) p.apsx,.sl 3 (p.dts.map Dst.enc) p.dtsx]]):=λJ=>by rw[hV1,Vg];exact g0 _
 have k1:∀J,(W++J)[1]?=some (Ob.row 4 [[.sl 9 (t.fares.map Far.enc) t.fx,.sl 15 (t.rules.map Rul.enc) t.rx,.sl 3 (t.rous.map Rou.enc) t.ox,.sl 7 (t.taxes.map Tx.enc) t.tx]]):=λJ=>by rw[hV1,Vg];exact g1 _
 have k2:∀J,(W++J)[2]?=some (Ob.row 5 [[.sl 4 (q.parts.map Prt.enc) q.px,e2,e3,.int .i64 q.fare,.int .i64 q.total]]):=λJ=>by rw[hV1,Vg];exact g2 _
 have k3:∀J,(W++J)[3]?=some (Ob.row 9 [[.sl 5 (p.aps.map Apt.enc) p.apsx,.sl 3 (p.dts.map Dst.enc) p.dtsx,.sl 9 (t.fares.map Far.enc) t.fx,.sl 15 (t.rules.map Rul.enc) t.rx,.sl 3 (t.rous.map Rou.enc) t.ox,.sl 7 (t.taxes.map Tx.enc) t.tx,.sl 8 (w.map Wnt.enc) wx,.str s,.int .i64 sale]]):=λJ=>Ym (by rw[hV1,<-hl0];exact Yl)
 clear hV1 g0 g1 g2 g01 g11 hl0
 have j2:=k2 []
 have j3:=k3 []
 rw[Ur]at j2 j3
 refine Za (λa U=>U=W/\((0<w.length/\w.length<=6)/\bc=true)/\gQ a 106 (a[13]?=some (.loc 3 0 0)) [(2,.sl 8 (w.map Wnt.enc) wx),(3,.str s),(4,.int .i64 sale),(6,.loc 0 0 0),(7,.loc 1 0 0),(11,.loc 2 0 0)]) ?_ ?_
 ·by_cases c1:0<w.length/\w.length<=6
  case neg=>
   have d1:(decide (0<w.length) && decide (w.length<=6))=false:=by
    rw[Bool.eq_false_iff]
    intro h
    rw[Kv,Up,Up]at h
    exact c1 h
   rw[d1]at cri
   rw[if_pos (by omega)]at hz
   subst hz
   simp only[push_cast,hal,h2,h3,h4,h6,h7,h11,h13,j3,cri,Tryz.f13,↓WX,simprocAttr,WY]
  have d1:(decide (0<w.length) && decide (w.length<=6))=true:=by rw[Ue c1.1,Ue c1.2];rfl
  rw[d1]at cri
  rw[if_neg (by omega)]at hz
  cases bc
  ·rw[if_neg (by decide)]at hz
   subst hz
   simp only[push_cast,hal,h11,h13,j2,j3,cri,cco,Tryz.f13,↓WX,simprocAttr,WY]
  ·simp only[push_cast,hal,h2,h3,h4,h6,h7,h11,h13,j2,j3,cri,cco,↓WX,simprocAttr,WY]
   exact c1
 rintro a U ⟨rfl,⟨c1,rfl⟩,hal,h2,h3,h4,h6,h7,h11,h13⟩
 rw[if_neg (by omega),if_pos rfl]at hz
 have hcm:=hcm rfl
 have hqn:=hcv0 rfl (by omega)
 have hwn:w≠[]:=λe=>by rw[e,Vs]at c1;omega
 clear hcv0 cri cco
 obtain⟨why,hwhy⟩:∃why,why=whC p t w s sale:=⟨_,rfl⟩
 obtain⟨amt,hamt⟩:∃amt,amt=amC p t w s:=⟨_,rfl⟩
 rw[<-hwhy,<-hamt]at hz hvam
 rw[<-hwhy]at cwhy
 rw[<-hamt]at camt
 clear hwhy hamt
 obtain⟨fe,hfe⟩:∃fe,fe=fstE (vfE why amt) q.parts:=⟨_,rfl⟩
 rw[<-hfe]at hz hvam
 refine Za (λa T=>(∃J,T=U++J)/\fe=0/\gQ a 106 (a[13]?=some (.loc 3 0 0)) [(2,.sl 8 (w.map Wnt.enc) wx),(6,.loc 0 0 0),(7,.loc 1 0 0),(11,.loc 2 0 0)]) ?_ ?_
 ·simp only[push_cast,hal,h11,j2,↓WX,simprocAttr]
  refine Yk (λi a T=>((∃J,T=U++J)/\fe=fstE (vfE why amt) (q.parts.drop i))/\a.length=106/\a[2]?=some (.sl 8 (w.map Wnt.enc) wx)/\a[3]?=some (.str s)/\a[4]?=some (.int .i64 sale)/\a[6]?=some (.loc 0 0 0)/\a[7]?=some (.loc 1 0 0)/\a[11]?=some (.loc 2 0 0)/\a[13]?=some (.loc 3 0 0)/\a[40]?=some (.sl 4 (q.parts.map Prt.enc) q.px)/\a[41]?=some (.int .i64 q.parts.length)/\a[42]?=some (.int .i64 i)) q.parts.length ?_ (by omega) ?_
  ·simp only[push_cast,hal,h2,h3,h4,h6,h7,h11,h13,simprocAttr,WY]
   exact⟨⟨[],(Ur _).symm⟩,hfe⟩
  clear hfe
  rintro i a T hi ⟨⟨⟨J,rfl⟩,hfe⟩,hal,h2,h3,h4,h6,h7,h11,h13,h40,h41,h42⟩
  rcases Kw hi with hlt |rfl
  case inr=>
   rw[Vj]at hfe
   simp only[push_cast,hal,h2,h6,h7,h11,h13,h41,h42,↓WX,simprocAttr,WY]
   exact⟨⟨J,rfl⟩,hfe⟩
  have hltc:(i:Int)<q.parts.length:=by omega
  obtain⟨x,hx⟩:∃x,q.parts[i]?=some x:=⟨q.parts[i],by simp⟩
  obtain⟨x0,x1,x2⟩:=hcm x (Kx hx)
  rw[fstE_drop hx]at hfe
  refine Ya (λa V=>V=U++J/\gQ a 106 (a[43]?=some (.bool true)) [(2,.sl 8 (w.map Wnt.enc) wx),(3,.str s),(4,.int .i64 sale),(6,.loc 0 0 0),(7,.loc 1 0 0),(11,.loc 2 0 0),(13,.loc 3 0 0),(40,.sl 4 (q.parts.map Prt.enc) q.px),(41,.int .i64 q.parts.length),(42,.int .i64 i)]) ?_ ?_
  ·simp only[push_cast,hal,h2,h3,h4,h6,h7,h11,h13,h40,h41,h42,hltc,↓WX,simprocAttr]
  rintro a V ⟨rfl,hal,h2,h3,h4,h6,h7,h11,h13,h40,h41,h42,h43⟩
  refine Ya (λa V=>V=U++J/\gQ a 106 (a[42]?=some (.int .i64 i)) [(2,.sl 8 (w.map Wnt.enc) wx),(3,.str s),(4,.int .i64 sale),(6,.loc 0 0 0),(7,.loc 1 0 0),(11,.loc 2 0 0),(13,.loc 3 0 0),(40,.sl 4 (q.parts.map Prt.enc) q.px),(41,.int .i64 q.parts.length)]) ?_ ?_
  ·simp only[push_cast,hal,h2,h3,h4,h6,h7,h11,h13,h40,h41,h42,h43,↓WX]
  rintro a V ⟨rfl,hal,h2,h3,h4,h6,h7,h11,h13,h40,h41,h42⟩
  rw[Zx,Yx]
  refine Ya (λa V=>V=U++J++[Ob.row 4 [x.enc]]/\gQ a 106 (a[42]?=some (.int .i64 i)) [(2,.sl 8 (w.map Wnt.enc) wx),(3,.str s),(4,.int .i64 sale),(6,.loc 0 0 0),(7,.loc 1 0 0),(11,.loc 2 0 0),(13,.loc 3 0 0),(15,.loc (U++J).length 0 0),(40,.sl 4 (q.parts.map Prt.enc) q.px),(41,.int .i64 q.parts.length)]) ?_ ?_
  ·simp only[push_cast,hal,h2,h3,h4,h6,h7,h11,h13,h40,h41,h42,hx,Yq,Yl,Prt.enc,↓WX,simprocAttr]
  rintro a V ⟨hV,hal,h2,h3,h4,h6,h7,h11,h13,h15,h40,h41,h42⟩
  have gx:V[(U++J).length]?=some (Ob.row 4 [x.enc]):=by rw[hV];exact Yl
  rw[Vg]at hV
  have q0:=k0 (J++[Ob.row 4 [x.enc]])
  have q1:=k1 (J++[Ob.row 4 [x.enc]])
  rw[<-hV]at q0 q1
  have hj:∃J,V=U++J:=⟨_,hV⟩
  clear hV
  generalize (U++J).length=kz at*
  simp only[Prt.enc]at gx
  have hge0:(0<=x.fr)=True:=eq_true x0
  have hge1:(0<=x.to)=True:=eq_true (by omega)
  have hle1:x.fr.toNat<=x.to.toNat:=by omega
  have hle2:x.to.toNat<=w.length:=by omega
  have cwhy:=cwhy x x0 x1 x2
  have camt:=camt x x0 x1 x2
  have hvx:vfE why amt x=if why x=0 then if (amt x).2=0/\(amt x).1=x.am then 0 else 36 else why x:=rfl
  rw[hvx]at hfe
  generalize why x=wx' at*
  generalize amt x=ax at*
  obtain⟨a1,a2⟩:=ax
  dsimp only at camt hfe
  obtain⟨sg,hsg⟩:∃sg,sg=D.sl 8 (((w.map Wnt.enc).drop x.fr.toNat).take (x.to.toNat-x.fr.toNat)) (wx && decide (x.to.toNat=w.length)):=⟨_,rfl⟩
  rw[<-hsg]at cwhy camt
  refine Ya (λa X=>X=V/\gQ a 106 (a[42]?=some (.int .i64 i)) [(2,.sl 8 (w.map Wnt.enc) wx),(3,.str s),(4,.int .i64 sale),(6,.loc 0 0 0),(7,.loc 1 0 0),(11,.loc 2 0 0),(13,.loc 3 0 0),(15,.loc kz 0 0),(16,sg),(40,.sl 4 (q.parts.map Prt.enc) q.px),(41,.int .i64 q.parts.length)]) ?_ ?_
  ·rw[hsg]
   simp only[push_cast,hal,h2,h3,h4,h6,h7,h11,h13,h15,h40,h41,h42,gx,hge0,hge1,hle1,hle2,↓WX,simprocAttr,WY]
  clear hsg
  rintro a X ⟨rfl,hal,h2,h3,h4,h6,h7,h11,h13,h15,h16,h40,h41,h42⟩
  by_cases e1:wx'=0
  case neg=>
   rw[if_neg e1,if_neg e1]at hfe
   rw[if_neg (by rw[hfe];exact e1)]at hz
   rw[hfe]at hz
   subst hz
   simp only[push_cast,Vo,hal,h2,h3,h4,h6,h7,h11,h13,h15,h16,gx,q0,q1,cwhy,e1,Tryz.f13,↓WX,simprocAttr,WY]
  subst e1
  rw[if_pos rfl]at hfe
  by_cases e2:a2=0
  case neg=>
   have he:(if a2=0/\a1=x.am then (0:Int) else 36)=36:=if_neg λh=>e2 h.1
   rw[he,if_neg (by decide)]at hfe
   rw[if_neg (by rw[hfe];decide),hfe]at hz
   subst hz
   simp only[push_cast,Vp,Vo,hal,h2,h3,h4,h6,h7,h11,h13,h15,h16,gx,q0,q1,cwhy,camt,e2,Tryz.f13,↓WX,simprocAttr,WY]
  subst e2
  by_cases e3:a1=x.am
  case neg=>
   have he:(if (0:Int)=0/\a1=x.am then (0:Int) else 36)=36:=if_neg λh=>e3 h.2
   rw[he,if_neg (by decide)]at hfe
   rw[if_neg (by rw[hfe];decide),hfe]at hz
   subst hz
   simp only[push_cast,Vp,Vo,hal,h2,h3,h4,h6,h7,h11,h13,h15,h16,gx,q0,q1,cwhy,camt,e3,Tryz.f13,↓WX,simprocAttr,WY]
  have he:(if (0:Int)=0/\a1=x.am then (0:Int) else 36)=0:=if_pos ⟨rfl,e3⟩
  rw[he,if_pos rfl]at hfe
  simp(disch:=omega)only[push_cast,Vp,hal,h2,h3,h4,h6,h7,h11,h13,h15,h16,h40,h41,h42,gx,q0,q1,hlt,cwhy,camt,e3,Yf,↓WX,simprocAttr,WY]
  exact⟨hj,hfe⟩
 rintro a T ⟨⟨J,hT⟩,rfl,hal,h2,h6,h7,h11,h13⟩
 rw[if_pos rfl]at hz
 have hvam:=hvam rfl
 have q0:=k0 J
 have q1:=k1 J
 have q2:=k2 J
 have q3:=k3 J
 rw[<-hT]at q0 q1 q2 q3
 clear hT k0 k1 k2 k3 j2 j3 cwhy camt
 refine Za (λa X=>X=T/\ck=0/\gQ a 106 (a[13]?=some (.loc 3 0 0)) [(11,.loc 2 0 0)]) ?_ ?_
 ·by_cases e1:ck=0
  case neg=>
   rw[if_neg e1]at hz
   subst hz
   simp only[push_cast,Vo,hal,h2,h6,h7,h11,q0,q1,q2,cck,e1,Tryz.f13,↓WX,simprocAttr,WY]
  subst e1
  simp only[push_cast,Vp,hal,h2,h6,h7,h11,h13,q0,q1,q2,cck,↓WX,simprocAttr,WY]
 rintro a X ⟨rfl,rfl,hal,h11,h13⟩
 rw[if_pos rfl]at hz
 have hcp:=hcp rfl
 obtain⟨r,T1,hA,hx1,hr⟩:=hprc X hwn hqn hvam
 clear hprc cck q0 q1 hvam hcm
 obtain⟨m,rfl⟩:∃m,n=m+1:=⟨n-1,by omega⟩
 rw[Nat.add_sub_cancel]at hA
 have cA:∀st,Yi E (Yb E (m+1)) st X 31 [.agg [.sl 5 (p.aps.map Apt.enc) p.apsx,.sl 3 (p.dts.map Dst.enc) p.dtsx,.sl 9 (t.fares.map Far.enc) t.fx,.sl 15 (t.rules.map Rul.enc) t.rx,.sl 3 (t.rous.map Rou.enc) t.ox,.sl 7 (t.taxes.map Tx.enc) t.tx,.sl 8 (w.map Wnt.enc) wx,.str s,.int .i64 sale],.sl 4 (q.parts.map Prt.enc) q.px]=some (r,T1):=λst=>cgenT rfl hA
 unfold prcF at hr
 rw[if_pos hcp]at hr
 have y2:=hx1 _ _ q2
 cases hs:sumsF pctF p t w s q.parts with
 |none=>
  rw[hs]at hr hz
  obtain⟨e,he,rfl⟩:=hr
  have he':(e=0)=False:=eq_false he
  have hz':z=36:=hz
  subst hz'
  simp only[push_cast,Vo,hal,h11,h13,q2,q3,cA,he',Yq,Yl,Tryz.f13,↓WX,simprocAttr]
 |some zz=>
  rw[hs]at hr hz
  obtain⟨k,dq,dt,rfl,hk0,hk,hlq,hft⟩:=hr
  have oq:=hlq.one
  have ot:=Yv hft
  simp only[D.one]at oq ot
  have hz':z=if sameF (wantF zz (Xq t q.parts).1 q.parts) q=true then 0 else 36:=hz
  have hlt:=sumsF_len hs
  have hlx:=ht.tl
  have hlpp:=pairsF_len (t:=t) (l:=q.parts)
  clear hz hs
  have hlp:(wantF zz (Xq t q.parts).1 q.parts).parts.length<=1048576:=by show q.parts.length<=_;omega
  have csa:=λ(J:List Ob)=>PSame_q (n:=m+1) (S:=T1++J) (k:=k) (d2:=dq) (d3:=dt) (u:=wantF zz (Xq t q.parts).1 q.parts) (Ym hk) (hlq.ext Jx) hft q hqf v2 v3 hlp (by show (Xq t q.parts).1.length<=_;omega) (by show zz.2.1.length<=_;omega) (by omega)
  have csa:=csa [Ob.row 5 [[.os k 0 q.parts.length false,dq,dt,.int .i64 zz.1,.int .i64 zz.2.2]]]
  have csb:∀st,Yi E (Yb E (m+1)) st (T1++[Ob.row 5 [[.os k 0 q.parts.length false,dq,dt,.int .i64 zz.1,.int .i64 zz.2.2]]]) 17 [.agg [.os k 0 q.parts.length false,dq,dt,.int .i64 zz.1,.int .i64 zz.2.2],.agg [.sl 4 (q.parts.map Prt.enc) q.px,e2,e3,.int .i64 q.fare,.int .i64 q.total]]=some (.bool (sameF (wantF zz (Xq t q.parts).1 q.parts) q),T1++[Ob.row 5 [[.os k 0 q.parts.length false,dq,dt,.int .i64 zz.1,.int .i64 zz.2.2]]]):=csa
  clear csa
  have cA2:∀st,Yi E (Yb E (m+1)) st X 31 [.agg [.sl 5 (p.aps.map Apt.enc) p.apsx,.sl 3 (p.dts.map Dst.enc) p.dtsx,.sl 9 (t.fares.map Far.enc) t.fx,.sl 15 (t.rules.map Rul.enc) t.rx,.sl 3 (t.rous.map Rou.enc) t.ox,.sl 7 (t.taxes.map Tx.enc) t.tx,.sl 8 (w.map Wnt.enc) wx,.str s,.int .i64 sale],.sl 4 (q.parts.map Prt.enc) q.px]=some (.tup [.agg [.os k 0 q.parts.length false,dq,dt,.int .i64 zz.1,.int .i64 zz.2.2],.int .i64 0],T1):=cA
  clear cA hA
  have y3:=Ym (J:=[Ob.row 5 [[.os k 0 q.parts.length false,dq,dt,.int .i64 zz.1,.int .i64 zz.2.2]]]) y2
  generalize sameF (wantF zz (Xq t q.parts).1 q.parts) q=bs at*
  generalize zz.1=z1 at*
  generalize zz.2.2=z2 at*
  rw[Zx]
  refine Ya (λa Y=>Y=T1++[Ob.row 5 [[.os k 0 q.parts.length false,dq,dt,.int .i64 z1,.int .i64 z2]]]/\gQ a 106 (a[22]?=some (.int .i64 0)) [(11,.loc 2 0 0),(21,.loc T1.length 0 0)]) ?_ ?_
  ·simp only[push_cast,hal,h11,h13,q2,q3,cA2,oq,ot,Yq,Yl,↓WX,simprocAttr]
  rintro a Y ⟨hY,hal,h11,h21,h22⟩
  have y4:Y[T1.length]?=some (Ob.row 5 [[.os k 0 q.parts.length false,dq,dt,.int .i64 z1,.int .i64 z2]]):=by rw[hY];exact Yl
  rw[<-hY]at csb y3
  clear hY
  generalize T1.length=kt at*
  cases bs
  ·have hz2:z=36:=hz'
   subst hz2
   simp only[push_cast,Vp,hal,h11,h21,h22,y3,y4,csb,Tryz.f13,↓WX,simprocAttr,WY]
  ·have hz2:z=0:=hz'
   subst hz2
   simp only[push_cast,Vp,hal,h11,h21,h22,y3,y4,csb,Tryz.f13,↓WX,simprocAttr,WY]
theorem PValid_x {p:Plc} (hp:PlG p) {t:Trf} (ht:TrG t) (w:List Wnt) (wx:Bool) (hw:w.length<=900) (htm:∀u∈w,u.tm) (s:ByteArray) (sale:Int) (q:Quo) (hql:q.parts.length<=900) (hqp:q.pairs.length<=1048576) (hqt:q.taxes.length<=1048576) (hn:80000012<=n):
  ∀st S,Yi E (Yb E n) st S 13 [.agg p.enc,.agg t.enc,.sl 8 (w.map Wnt.enc) wx,.str s,.int .i64 sale,.agg q.enc]=some (.int .i64 (validF (whC p t w s sale) (amC p t w s) pctF p t w s q),S):=by
 obtain⟨m,rfl⟩:∃m,n=m+1:=⟨n-1,by omega⟩
 obtain⟨_,T,ho,rfl⟩:=PValid_d (n:=m) hp ht w wx hw htm s sale q hql hqp hqt (e2:=.sl 2 (q.pairs.map Xa) q.qx) (e3:=.sl 2 (q.taxes.map Jf) q.tx) (.inr ⟨_,rfl⟩) (.inr ⟨_,rfl⟩) (by omega)
 exact λst S=>Yd rfl (by simp only[Yc,Yg,D.pure,Yt,Ja,Jd,Quo_pure,Ua]) ho rfl
end
def PctE (pct:Int->Int->Int×Int):Prop:=∀x y,0<=x->x<=1099511627776->0<=y->y<=100000->pct x y=pctF x y
theorem taxF_E {pct:Int->Int->Int×Int} (h:PctE pct) {p:Plc} {w:List Wnt} {s:ByteArray} {fare:Int} (h0:0<=fare) (h1:fare<=1099511627776):∀(l:List Tx) (acc:List (ByteArray×Int)),(∀x∈l,TxG x)->taxF pct p w s fare l acc=taxF pctF p w s fare l acc
 | [],_,_=>rfl
 |x::xs,acc,hx=>by
  have hg:=hx x (Uo ..)
  have ih:=λacc=>taxF_E h (p:=p) (w:=w) (s:=s) h0 h1 xs acc λy hy=>hx y (Um _ hy)
  have ha:axF pct (timF p x w s) x fare=axF pctF (timF p x w s) x fare:=by
   unfold axF
   by_cases c:x.kind=4/\timF p x w s=1
   ·rw[if_pos c,if_pos c,h fare x.amount h0 h1 hg.am.1 (hg.fa c.1)]
   ·rw[if_neg c,if_neg c]
  rw[taxF,taxF,ha,ih,ih]
theorem sumsF_E {pct:Int->Int->Int×Int} (h:PctE pct) {p:Plc} {t:Trf} (ht:∀x∈t.taxes,TxG x) {w:List Wnt} {s:ByteArray} {l:List Prt} (h0:∀x∈l,0<=x.am):sumsF pct p t w s l=sumsF pctF p t w s l:=by
 have ha:∀x∈l.map Prt.am,0<=x:=λx hx=>by obtain⟨y,hy,rfl⟩:=Vq.1 hx;exact h0 y hy
 have hA:=sm_pos _ ha
 unfold sumsF
 rw[famF_eq _ 0 ha (by omega) (by omega),Int.zero_add]
 by_cases c1:sm (l.map Prt.am)<=1099511627776
 ·rw[if_pos c1]
  dsimp only
  rw[taxF_E h hA c1 t.taxes [] ht]
 ·rw[if_neg c1]
theorem validF_E {why:Prt->Int} {amt:Prt->Int×Int} {pct:Int->Int->Int×Int} (h:PctE pct) {p:Plc} {t:Trf} (ht:∀x∈t.taxes,TxG x) {w:List Wnt} {s:ByteArray} {q:Quo} (h0:fstE (vfE why amt) q.parts=0->∀x∈q.parts,0<=x.am):validF why amt pct p t w s q=validF why amt pctF p t w s q:=by
 unfold validF
 by_cases c:fstE (vfE why amt) q.parts=0
 ·rw[sumsF_E h ht (h0 c)]
 ·simp only[if_neg c]
theorem JnyS.plg' {j:Jny} (h:JnyS j) (hj:JnyB j):PlG j.p where
 apl:=hj.apl
 sh:=hj.sh
 so:=h.so
 dl:=h.fit.dl
 cz:=λa ha=>(hj.apr a ha).2.1
 dz:=hj.dst
theorem JnyS.trg' {j:Jny} (h:JnyS j) (hj:JnyB j):TrG j.t where
 fl:=Vk h.fit.fl (by decide)
 am:=h.am
 rl:=Vk h.fit.rl (by decide)
 cb:=λr hr=>(hj.rul r hr).cmb
 cn:=λr hr=>(hj.rul r hr).cnd
 pl:=λr hr=>(hj.rul r hr).pcl
 pc:=λr hr=>(h.pc r hr).1
 ol:=Vk h.fit.ol (by decide)
 lk:=λr hr=>(hj.rou r hr).1
 tl:=Vk h.fit.tl (by decide)
 tg:=h.tg
 tf:=λx hx=>(hj.tax x hx).frl
theorem JnyS.kgt {j:Jny} (h:JnyS j):KGt j.t:=λr hr=>(h.pc r hr).2
section
variable {n : Nat}
theorem RValid_x {p:Plc} (hp:PlG p) {t:Trf} (ht:TrG t) (hk:KGt t) (w:List Wnt) (wx:Bool) (hw:w.length<=900) (htm:∀u∈w,u.tm) (s:ByteArray) (sale:Int) (q:Quo) (hql:q.parts.length<=900) (hqp:q.pairs.length<=1048576) (hqt:q.taxes.length<=1048576) (hn:80000012<=n):
  ∀st S,Yi E (Yb E n) st S 14 [.agg p.enc,.agg t.enc,.sl 8 (w.map Wnt.enc) wx,.str s,.int .i64 sale,.agg q.enc]=some (.int .i64 (validF (whC p t w s sale) (amC p t w s) pctF p t w s q),S):=by
 obtain⟨m,rfl⟩:∃m,n=m+3:=⟨n-3,by omega⟩
 have kp:∀x y:Int,∃q:Int×Int,(0<=x->x<=1099511627776->0<=y->y<=100000->q=pctF x y)/\∀st S,Yi E (Yb E m) st S 143 [.int .i64 x,.int .i64 y]=some (.tup [.int .i64 q.1,.int .i64 q.2],S):=λx y=>by
  by_cases c:0<=x/\x<=1099511627776/\0<=y/\y<=100000
  ·exact⟨_,λ_ _ _ _=>rfl,RPercent_x (n:=m) (by omega) x y c.1 c.2.1 c.2.2.1 c.2.2.2⟩
  ·obtain⟨a,b,h⟩:=percent02_c (n:=m) (by omega) x y
   exact⟨(a,b),λh1 h2 h3 h4=>(c ⟨h1,h2,h3,h4⟩).elim,h⟩
 have hE:PctE λx y=>(kp x y).choose:=λx y h1 h2 h3 h4=>(kp x y).choose_spec.1 h1 h2 h3 h4
 have hwhy:∀x:Prt,0<=x.fr->x.fr<x.to->x.to<=w.length->∀st S,Yi E (Yb E (m+2)) st S 33 [.agg p.enc,.agg t.enc,.int .i64 x.fa,.sl 8 (((w.map Wnt.enc).drop x.fr.toNat).take (x.to.toNat-x.fr.toNat)) (wx && decide (x.to.toNat=w.length)),.str s,.int .i64 sale]=some (.int .i64 (whC p t w s sale x),S):=λx h0 h1 h2=>by
  obtain⟨c1,c2⟩:=cutF_len h0 h1 h2
  have:=RWhy_n (n:=m+2) hp ht hk (by omega) x.fa (cutF w x) (wx && decide (x.to.toNat=w.length)) (by omega) c2 (cutF_tm htm x) s sale
  unfold cutF at this
  rw[List.map_take,List.map_drop]at this
  exact this
 have hamt:∀x:Prt,0<=x.fr->x.fr<x.to->x.to<=w.length->∀st S,Yi E (Yb E (m+2)) st S 34 [.agg p.enc,.agg t.enc,.int .i64 x.fa,.sl 8 (((w.map Wnt.enc).drop x.fr.toNat).take (x.to.toNat-x.fr.toNat)) (wx && decide (x.to.toNat=w.length)),.str s]=some (.tup [.int .i64 (amC p t w s x).1,.int .i64 (amC p t w s x).2],S):=λx h0 h1 h2=>by
  obtain⟨c1,c2⟩:=cutF_len h0 h1 h2
  have:=RAmount25_x (n:=m+2) hp ht (by omega) x.fa (cutF w x) (wx && decide (x.to.toNat=w.length)) (by omega) c2 s
  unfold cutF at this
  rw[List.map_take,List.map_drop]at this
  exact this
 obtain⟨_,T,ho,rfl⟩:=Valid28_d (n:=m) (whC p t w s sale) (amC p t w s) (λx y=>(kp x y).choose) (λx y=>(kp x y).choose_spec.2) p hp.apl hp.sh t ht.rl ht.cb ht.tl ht.tf w wx hw s sale q hql hqp hqt (by omega) hwhy hamt
 rw[validF_E hE ht.tg λh=>vfE_am ht h]at ho
 exact λst S=>Yd rfl (by simp only[Yc,Yg,D.pure,Yt,Ja,Jd,Quo_pure,Ua]) ho rfl
theorem PriceChecks_d (hn:90000000<=n) {j:Jny} (hj:JnyB j) (u:Quo) (hu:u.parts.length<=1048576/\u.pairs.length<=1048576/\u.taxes.length<=1048576):WO (Yb E (n+1) 4 [.agg j.enc,.agg u.enc] []) λr T=>r=.bool true:=by
 have hex:=λst S=>ex28_c (n:=n) (by omega) st S
 obtain⟨bf,hbf,cf⟩:=fits28_s (n:=n) (by omega) hj
 have key:bf=true->u.parts.length<=8->∃e:Int,
   (∀st S,Yi E (Yb E n) st S 13 [.agg j.p.enc,.agg j.t.enc,.sl 8 (j.l.map Wnt.enc) j.lx,.str j.pass,.int .i64 j.sale,.agg u.enc]=some (.int .i64 e,S))/\
   ∀st S,Yi E (Yb E n) st S 14 [.agg j.p.enc,.agg j.t.enc,.sl 8 (j.l.map Wnt.enc) j.lx,.str j.pass,.int .i64 j.sale,.agg u.enc]=some (.int .i64 e,S):=λhb h8=>by
  have hs:=hbf hb
  have hl:=hs.fit.l
  exact⟨_,PValid_x (n:=n) (hs.plg' hj) (hs.trg' hj) j.l j.lx (by omega) hs.tm j.pass j.sale u (by omega) hu.2.1 hu.2.2 (by omega),RValid_x (n:=n) (hs.plg' hj) (hs.trg' hj) hs.kgt j.l j.lx (by omega) hs.tm j.pass j.sale u (by omega) hu.2.1 hu.2.2 (by omega)⟩
 clear hbf
 simp only[Jny.enc,Plc.enc,Trf.enc,Quo.enc]at cf key ⊢
 refine Ye Tryz.func4 rfl (by decide) rfl 43 rfl (λa hal ha=>?_)
 obtain⟨h0,h1⟩:=aQ2 ha
 clear ha
 have hml:(u.parts.map Prt.enc).length=u.parts.length:=Uq ..
 generalize j.p.aps.map Apt.enc=ae at*
 generalize j.p.dts.map Dst.enc=de at*
 generalize j.t.fares.map Far.enc=fe at*
 generalize j.t.rules.map Rul.enc=re at*
 generalize j.t.rous.map Rou.enc=oe at*
 generalize j.t.taxes.map Tx.enc=te at*
 generalize j.l.map Wnt.enc=we at*
 generalize u.parts.map Prt.enc=pe at*
 generalize u.pairs.map Xa=qe at*
 generalize u.taxes.map Jf=he at*
 rw[<-hml]at key
 clear hml
 obtain⟨S0,hS0⟩:∃S0,S0=[Ob.row 9 [[.sl 5 ae j.p.apsx,.sl 3 de j.p.dtsx,.sl 9 fe j.t.fx,.sl 15 re j.t.rx,.sl 3 oe j.t.ox,.sl 7 te j.t.tx,.sl 8 we j.lx,.str j.pass,.int .i64 j.sale]],Ob.row 5 [[.sl 4 pe u.px,.sl 2 qe u.qx,.sl 2 he u.tx,.int .i64 u.fare,.int .i64 u.total]]]:=⟨_,rfl⟩
 have g0:S0[0]?=some (Ob.row 9 [[.sl 5 ae j.p.apsx,.sl 3 de j.p.dtsx,.sl 9 fe j.t.fx,.sl 15 re j.t.rx,.sl 3 oe j.t.ox,.sl 7 te j.t.tx,.sl 8 we j.lx,.str j.pass,.int .i64 j.sale]]):=by rw[hS0];rfl
 have g1:S0[1]?=some (Ob.row 5 [[.sl 4 pe u.px,.sl 2 qe u.qx,.sl 2 he u.tx,.int .i64 u.fare,.int .i64 u.total]]):=by rw[hS0];rfl
 refine Ya (λa V=>V=S0/\gQ a 43 (a[3]?=some (.loc 1 0 0)) [(2,.loc 0 0 0)]) ?_ ?_
 ·simp only[push_cast,hal,h0,h1,↓WX,simprocAttr]
  exact hS0.symm
 clear hS0
 rintro a V ⟨rfl,hal,h2,h3⟩
 cases bf
 ·simp only[push_cast,hal,h2,g0,cf,hex,Tryz.f4,↓WX,simprocAttr,WY]
 by_cases c0:(8:Int)<pe.length
 ·simp only[push_cast,Vn,hal,h2,h3,g0,g1,cf,hex,c0,Tryz.f4,↓WX,simprocAttr,WY]
 obtain⟨e,q1,q2⟩:=key rfl (by omega)
 simp only[push_cast,Vn,hal,h2,h3,g0,g1,cf,hex,c0,q1,q2,Tryz.f4,↓WX,simprocAttr,WY]
end
end Go.Proofs.YtaklebjoenophaaGreat.Dm
