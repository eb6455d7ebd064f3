/-
  The reference's reason of a fare and its amount, exactly.
-/
import Derived.Test.YtaklebjoenophaaGreatPrV
import Derived.Test.YtaklebjoenophaaGreatZg
set_option maxHeartbeats 64000000
set_option maxRecDepth 100000
set_option linter.unusedSimpArgs false
set_option linter.unusedVariables false
namespace Go.Proofs.YtaklebjoenophaaGreat.Dm
open Go Gw
theorem outF_not {t:Trf} {k:Int} {l:List Wnt} (hl0:l≠[]) (h1:¬k<0) (h2:¬k>=(t.fares.length:Int)):¬outF t k l:=by
 intro h
 unfold outF at h
 rcases h with h |h |h
 ·exact hl0 (Ug h)
 ·exact h1 h
 ·exact h2 h
section
variable {n : Nat}
theorem RAmount25_x {p:Plc} (hpg:PlG p) {t:Trf} (htg:TrG t) (hn:50000030<=n) (x:Int) (l:List Wnt) (lx:Bool) (hl:l.length<=1000) (hl0:l≠[]) (s:ByteArray):
  ∀st S,Yi E (Yb E n) st S 34 [.agg p.enc,.agg t.enc,.int .i64 x,.sl 8 (l.map Wnt.enc) lx,.str s]=some (.tup [.int .i64 (amtN p t x l s).1,.int .i64 (amtN p t x l s).2],S):=by
 obtain⟨m,rfl⟩:∃m,n=m+1:=⟨n-1,by omega⟩
 have hp:=Yt p
 have hpt:=Ja t
 obtain⟨cs,cx,hcc,hcl,hcs⟩:=Cities25_c (n:=m) p hpg.apl l lx hl hl0 (by omega)
 have hfm:=λf=>RMiles25_x (n:=m) t htg.ol f (by omega)
 have hfo:=λk=>ROf_x (n:=m) hpg cs cx (by omega) k (by omega)
 have hga:=λx y h0 h1=>RApply_x (n:=m) (by omega) x y h0 h1
 obtain⟨z,hz⟩:∃z,z=amtN p t x l s:=⟨_,rfl⟩
 rw[<-hz]
 unfold amtN at hz
 have hru:=λk=>Rule24_x (n:=m) (t.fares.map Far.enc) (t.rous.map Rou.enc) (t.taxes.map Tx.enc) t.fx t.ox t.tx t.rules t.rx (Js _) (Jz _) (Jq _) htg.rl (by omega) k
 simp only[Plc.enc,Trf.enc,Far.enc]at hp hpt hcs hfm hru hfo ⊢
 have hlz:decide ((l.length:Int)=0)=false:=Ud (λh=>hl0 (Ug (by omega)))
 have:WO (Yb E (m+1) 34 [.agg [.sl 5 (p.aps.map Apt.enc) p.apsx,.sl 3 (p.dts.map Dst.enc) p.dtsx],.agg [.sl 9 (t.fares.map Far.enc) t.fx,.sl 15 (t.rules.map Rul.enc) t.rx,.sl 3 (t.rous.map Rou.enc) t.ox,.sl 7 (t.taxes.map Tx.enc) t.tx],.int .i64 x,.sl 8 (l.map Wnt.enc) lx,.str s] []) λr T=>r=.tup [.int .i64 z.1,.int .i64 z.2]:=by
  refine Ye Tryz.func34 rfl (by decide) rfl 81 rfl (λa hal ha=>?_)
  obtain⟨h0,h1,h2,h3,h4⟩:=aQ5 ha
  clear ha
  by_cases c2:x<0
  ·rw[if_pos (.inr (.inl c2))]at hz
   subst hz
   simp only[push_cast,hal,h0,h1,h2,h3,hlz,c2,Tryz.f34,↓WX,simprocAttr]
  by_cases c3:x>=t.fares.length
  ·have d3:decide (x>=(t.fares.length:Int))=true:=Ue c3
   rw[if_pos (.inr (.inr c3))]at hz
   subst hz
   simp only[push_cast,hal,h0,h1,h2,h3,hlz,c2,d3,Tryz.f34,↓WX,simprocAttr]
  have d3:decide (x>=(t.fares.length:Int))=false:=Ud c3
  rw[if_neg (outF_not hl0 c2 c3)]at hz
  have hge:(0<=x)=True:=eq_true (by omega)
  have hxl:x.toNat<t.fares.length:=by omega
  obtain⟨f,hf⟩:∃f,t.fares[x.toNat]?=some f:=⟨t.fares[x.toNat],by simp⟩
  have hfa:farA t x=f:=by unfold farA;rw[hf];rfl
  have ham:=htg.am f (Kx hf)
  rw[hfa]at hz
  unfold amtG at hz
  rw[<-hcc]at hz
  dsimp only at hz
  obtain⟨S0,hS0⟩:∃S0:List Ob,S0=[Ob.row 2 [[.sl 5 (p.aps.map Apt.enc) p.apsx,.sl 3 (p.dts.map Dst.enc) p.dtsx]],Ob.row 4 [[.sl 9 (t.fares.map Far.enc) t.fx,.sl 15 (t.rules.map Rul.enc) t.rx,.sl 3 (t.rous.map Rou.enc) t.ox,.sl 7 (t.taxes.map Tx.enc) t.tx]],Ob.row 9 [[.str f.car,.str f.frm,.str f.dst,.str f.bas,.str f.cls,.bool f.rnd,.int .i64 f.amt,.int .i64 f.rul,.int .i64 f.rou]]]:=⟨_,rfl⟩
  refine Ya (λa V=>V=[Ob.row 2 [[.sl 5 (p.aps.map Apt.enc) p.apsx,.sl 3 (p.dts.map Dst.enc) p.dtsx]],Ob.row 4 [[.sl 9 (t.fares.map Far.enc) t.fx,.sl 15 (t.rules.map Rul.enc) t.rx,.sl 3 (t.rous.map Rou.enc) t.ox,.sl 7 (t.taxes.map Tx.enc) t.tx]]]/\gQ a 81 (a[6]?=some (.loc 1 0 0)) [(2,.int .i64 x),(3,.sl 8 (l.map Wnt.enc) lx),(4,.str s),(5,.loc 0 0 0)]) ?_ ?_
  ·simp only[push_cast,hal,h0,h1,h2,h3,h4,↓WX,simprocAttr]
  rintro a V ⟨rfl,hal,h2,h3,h4,h5,h6⟩
  refine Ya (λa V=>V=[Ob.row 2 [[.sl 5 (p.aps.map Apt.enc) p.apsx,.sl 3 (p.dts.map Dst.enc) p.dtsx]],Ob.row 4 [[.sl 9 (t.fares.map Far.enc) t.fx,.sl 15 (t.rules.map Rul.enc) t.rx,.sl 3 (t.rous.map Rou.enc) t.ox,.sl 7 (t.taxes.map Tx.enc) t.tx]]]/\gQ a 81 (a[6]?=some (.loc 1 0 0)) [(2,.int .i64 x),(3,.sl 8 (l.map Wnt.enc) lx),(4,.str s),(5,.loc 0 0 0)]) ?_ ?_
  ·simp only[push_cast,hal,h2,h3,h4,h5,h6,hlz,c2,d3,↓WX,simprocAttr]
  rintro a V ⟨rfl,hal,h2,h3,h4,h5,h6⟩
  refine Ya (λa V=>V=S0/\gQ a 81 (a[12]?=some (.loc 2 0 0)) [(3,.sl 8 (l.map Wnt.enc) lx),(4,.str s),(5,.loc 0 0 0),(6,.loc 1 0 0)]) ?_ ?_
  ·simp only[push_cast,hal,h2,h3,h4,h5,h6,hge,hf,Far.enc,↓WX,simprocAttr]
   rw[hS0]
  rintro a V ⟨rfl,hal,h3,h4,h5,h6,h12⟩
  have g0:V[0]?=some (Ob.row 2 [[.sl 5 (p.aps.map Apt.enc) p.apsx,.sl 3 (p.dts.map Dst.enc) p.dtsx]]):=by rw[hS0];rfl
  have g1:V[1]?=some (Ob.row 4 [[.sl 9 (t.fares.map Far.enc) t.fx,.sl 15 (t.rules.map Rul.enc) t.rx,.sl 3 (t.rous.map Rou.enc) t.ox,.sl 7 (t.taxes.map Tx.enc) t.tx]]):=by rw[hS0];rfl
  have g2:V[2]?=some (Ob.row 9 [[.str f.car,.str f.frm,.str f.dst,.str f.bas,.str f.cls,.bool f.rnd,.int .i64 f.amt,.int .i64 f.rul,.int .i64 f.rou]]):=by rw[hS0];rfl
  have hfmf:=hfm f
  obtain⟨mi,hmi⟩:∃mi,mi=if f.rou=0 then 0 else milF (rouT t f.rou):=⟨_,rfl⟩
  rw[<-hmi]at hfmf
  have hxx:(if f.rou=0 then ((0,0):Int×Int) else if 0<milF (rouT t f.rou) then ofN p cs (milF (rouT t f.rou)) else (0,0))=if 0<mi then ofN p cs mi else (0,0):=by
   rw[hmi]
   by_cases e:f.rou=0
   ·rw[if_pos e,if_pos e,if_neg (by decide)]
   ·rw[if_neg e,if_neg e]
  rw[hxx]at hz
  clear hxx
  have hfo:=hfo mi
  generalize ofN p cs mi=w at*
  obtain⟨wq,we⟩:=w
  dsimp only at hfo
  clear hS0
  refine Ya (λa W=>W=V/\gQ a 81 (a[13]?=some (.int .i64 0)) [(3,.sl 8 (l.map Wnt.enc) lx),(4,.str s),(5,.loc 0 0 0),(6,.loc 1 0 0),(12,.loc 2 0 0)]) ?_ ?_
  ·simp only[push_cast,hal,h3,h4,h5,h6,h12,↓WX,simprocAttr]
  rintro a W ⟨rfl,hal,h3,h4,h5,h6,h12,h13⟩
  by_cases bad:decide (mi>0)=true/\decide (we=0)=false
  ·obtain⟨e1,e2⟩:=bad
   rw[if_pos (Vb e1),if_neg (Vc e2)]at hz
   subst hz
   simp only[push_cast,decide_not,Vn,hal,h3,h5,h6,h12,g0,g1,g2,hfmf,hcs,hfo,e1,e2,Tryz.f34,↓WX,simprocAttr,WY]
  obtain⟨pc,hpc⟩:∃pc,pc=if 0<mi then wq else 0:=⟨_,rfl⟩
  have hz2:z=if (aplF f.amt pc).2=0 then payF (rulT t f.rul) s (aplF f.amt pc).1 else (0,(aplF f.amt pc).2):=by
   by_cases e1:0<mi
   ·have e2:we=0:=by
     by_cases e2:we=0
     ·exact e2
     ·exact (bad ⟨Ue e1,Ud e2⟩).elim
    rw[if_pos e1]at hz hpc
    rw[hz,hpc,if_pos e2]
   ·rw[if_neg e1]at hz hpc
    rw[hz,hpc,if_pos rfl]
  clear hz
  refine Ya (λa U=>(U=W/\a[13]?=some (.int .i64 pc))/\gQ a 81 (a[12]?=some (.loc 2 0 0)) [(4,.str s),(5,.loc 0 0 0),(6,.loc 1 0 0)]) ?_ ?_
  ·cases e1:decide (mi>0)
   ·rw[if_neg (show ¬0<mi from Vc e1)]at hpc
    rw[hpc]
    simp only[push_cast,Vn,hal,h4,h5,h6,h12,h13,g1,g2,hfmf,e1,↓WX,simprocAttr]
   ·cases e2:decide (we=0)
    ·exact (bad ⟨e1,e2⟩).elim
    ·rw[if_pos (show 0<mi from Vb e1)]at hpc
     rw[hpc]
     simp only[push_cast,decide_not,Vn,hal,h3,h4,h5,h6,h12,g0,g1,g2,hfmf,hcs,hfo,e1,e2,↓WX,simprocAttr,WY]
  rintro a U ⟨⟨rfl,h13⟩,hal,h4,h5,h6,h12⟩
  have hga:=hga f.amt pc ham.1 ham.2
  have hai:=aplF_in (x:=f.amt) (k:=pc) ham.1
  generalize aplF f.amt pc=w at*
  obtain⟨ga,ge⟩:=w
  dsimp only at hga hz2 hai
  cases e3:decide (ge=0)
  ·rw[if_neg (Vc e3)]at hz2
   subst hz2
   simp only[push_cast,decide_not,hal,h12,h13,g2,hga,e3,Tryz.f34,↓WX,simprocAttr,WY]
  rw[if_pos (Vb e3)]at hz2
  have hruf:=hru f.rul
  obtain⟨hp1,hp2⟩:=pcsL_of htg f.rul
  have hq:=RPay_x (n:=m) (rulT t f.rul) hp1 hp2 s ga hai.1 hai.2 (by omega)
  rw[<-hz2]at hq
  clear hz2
  unfold rulT at hq
  generalize t.rules.find? (λr=>decide (r.num=f.rul))=o at hruf hq
  generalize o.isSome=b at hruf
  obtain⟨x0,x1,x2,x3,x4,x5,x6,x7,x8,x9,x10,x11,x12,x13,x14,hd,hone⟩:=rul_lit15 o
  rw[hd]at hruf hq
  simp only[List.all_cons,List.all_nil,Ua,Kv,D.one]at hone
  simp only[push_cast,decide_not,hal,h4,h6,h12,h13,g1,g2,hga,e3,hruf,hq,hone,Yl,Yq,Tryz.f34,↓WX,simprocAttr,WY]
 obtain⟨_,T,ho,rfl⟩:=this
 exact λst S=>Yd rfl (by simp only[Yc,Yg,D.pure,Jd,Ua]at hp hpt ⊢;rw[Kv];exact⟨hp,hpt⟩) ho rfl
theorem RWhy25_x {p:Plc} (hpg:PlG p) {t:Trf} (htg:TrG t) (hn:50000030<=n) (k:Int) (l:List Wnt) (lx:Bool) (hl:l.length<=900) (hl0:l≠[]) (s:ByteArray) (sale:Int) (hag:∀r∈t.rules,hol (tripF p l s sale) r.when=holP (tripP p l s sale) r.when):
  ∀st S,Yi E (Yb E n) st S 33 [.agg p.enc,.agg t.enc,.int .i64 k,.sl 8 (l.map Wnt.enc) lx,.str s,.int .i64 sale]=some (.int .i64 (whyN p t k l s sale),S):=by
 obtain⟨m,rfl⟩:∃m,n=m+1:=⟨n-1,by omega⟩
 have hp:=Yt p
 have hpt:=Ja t
 obtain⟨cs,cx,hcc,hcl,hcs⟩:=Cities25_c (n:=m) p hpg.apl l lx (by omega) hl0 (by omega)
 have hfm:=λf=>RMiles25_x (n:=m) t htg.ol f (by omega)
 have hfo:=λk=>ROf_x (n:=m) hpg cs cx (by omega) k (by omega)
 obtain⟨z,hz⟩:∃z,z=whyN p t k l s sale:=⟨_,rfl⟩
 rw[<-hz]
 unfold whyN at hz
 have hru:=λk=>Rule24_x (n:=m) (t.fares.map Far.enc) (t.rous.map Rou.enc) (t.taxes.map Tx.enc) t.fx t.ox t.tx t.rules t.rx (Js _) (Jz _) (Jq _) htg.rl (by omega) k
 have hro:=λk=>Routing24_x (n:=m) (t.fares.map Far.enc) (t.rules.map Rul.enc) (t.taxes.map Tx.enc) t.fx t.rx t.tx t.rous t.ox (Js _) (Ruls_pure _) (Jq _) htg.ol (by omega) k
 obtain⟨x6,x7,x8,htk,htc⟩:=Trip25_x (n:=m) p hpg.apl hpg.sh l lx hl hl0 s sale (by omega)
 have ha21:=λo ho=>Allows21_x (n:=m) htk o ho (by omega)
 have o6:=Yv htk.hx
 have o7:=Yv htk.hy
 have o8:=Yv htk.hz
 simp only[D.one]at o6 o7 o8
 have halw:∀q,alwF (rulT t q) (tripF p l s sale)=alwP (rulT t q) (tripP p l s sale):=λq=>by
  unfold alwF alwP rulT
  cases h:t.rules.find? λr=>decide (r.num=q) with
  |none=>rfl
  |some r=>
   dsimp only
   rw[hag r (List.mem_of_find?_eq_some h)]
 clear hag
 have hwg:∀f:Far,whyG p t f l s sale=if endF f l cs=true then (if (l.any λq=> !decide (q.cls=f.cls))=true then 16 else if alwF (rulT t f.rul) (tripF p l s sale)=0 then wyN p t f cs else alwF (rulT t f.rul) (tripF p l s sale)) else 19:=λf=>by
  unfold whyG
  rw[halw,hcc]
 generalize tripF p l s sale=tf at*
 simp only[Plc.enc,Trf.enc,Far.enc,Trp.enc]at hp hpt hcs hfm hfo hru hro htc ha21 ⊢
 generalize tf.sale=i1 at*
 generalize tf.day=i2 at*
 generalize tf.mnt=i3 at*
 generalize tf.stops=i4 at*
 generalize tf.trs=i5 at*
 generalize tf.typ=i0 at*
 have hlz:decide ((l.length:Int)=0)=false:=Ud (λh=>hl0 (Ug (by omega)))
 have:WO (Yb E (m+1) 33 [.agg [.sl 5 (p.aps.map Apt.enc) p.apsx,.sl 3 (p.dts.map Dst.enc) p.dtsx],.agg [.sl 9 (t.fares.map Far.enc) t.fx,.sl 15 (t.rules.map Rul.enc) t.rx,.sl 3 (t.rous.map Rou.enc) t.ox,.sl 7 (t.taxes.map Tx.enc) t.tx],.int .i64 k,.sl 8 (l.map Wnt.enc) lx,.str s,.int .i64 sale] []) λr T=>r=.int .i64 z:=by
  obtain⟨P0,hP0⟩:∃P0:List D,P0=[.sl 5 (p.aps.map Apt.enc) p.apsx,.sl 3 (p.dts.map Dst.enc) p.dtsx]:=⟨_,rfl⟩
  obtain⟨T0,hT0⟩:∃T0:List D,T0=[.sl 9 (t.fares.map Far.enc) t.fx,.sl 15 (t.rules.map Rul.enc) t.rx,.sl 3 (t.rous.map Rou.enc) t.ox,.sl 7 (t.taxes.map Tx.enc) t.tx]:=⟨_,rfl⟩
  refine Ye Tryz.func33 rfl (by decide) rfl 136 rfl (λa hal ha=>?_)
  obtain⟨h0,h1,h2,h3,h4,h5⟩:=aQ6 ha
  clear ha
  by_cases c2:k<0
  ·rw[if_pos (.inr (.inl c2))]at hz
   subst hz
   simp only[push_cast,hal,h0,h1,h2,h3,hlz,c2,Tryz.f33,↓WX,simprocAttr]
  by_cases c3:k>=t.fares.length
  ·have d3:decide (k>=(t.fares.length:Int))=true:=Ue c3
   rw[if_pos (.inr (.inr c3))]at hz
   subst hz
   simp only[push_cast,hal,h0,h1,h2,h3,hlz,c2,d3,Tryz.f33,↓WX,simprocAttr]
  have d3:decide (k>=(t.fares.length:Int))=false:=Ud c3
  rw[if_neg (outF_not hl0 c2 c3)]at hz
  have hge:(0<=k)=True:=eq_true (by omega)
  have hxl:k.toNat<t.fares.length:=by omega
  obtain⟨f,hf⟩:∃f,t.fares[k.toNat]?=some f:=⟨t.fares[k.toNat],by simp⟩
  have hfa:farA t k=f:=by unfold farA;rw[hf];rfl
  rw[hfa,hwg f]at hz
  clear hwg hfa
  refine Ya (λa V=>V=[Ob.row 2 [P0],Ob.row 4 [T0]]/\gQ a 136 (a[7]?=some (.loc 1 0 0)) [(2,.int .i64 k),(3,.sl 8 (l.map Wnt.enc) lx),(4,.str s),(5,.int .i64 sale),(6,.loc 0 0 0)]) ?_ ?_
  ·simp only[push_cast,hal,h0,h1,h2,h3,h4,h5,↓WX,simprocAttr]
   rw[hP0,hT0]
  rintro a V ⟨rfl,hal,h2,h3,h4,h5,h6,h7⟩
  rw[hT0]
  refine Ya (λa V=>V=[Ob.row 2 [P0],Ob.row 4 [T0]]/\gQ a 136 (a[7]?=some (.loc 1 0 0)) [(2,.int .i64 k),(3,.sl 8 (l.map Wnt.enc) lx),(4,.str s),(5,.int .i64 sale),(6,.loc 0 0 0)]) ?_ ?_
  ·simp only[push_cast,hal,h2,h3,h4,h5,h6,h7,hlz,c2,d3,↓WX,simprocAttr]
   rw[hT0]
  rintro a V ⟨rfl,hal,h2,h3,h4,h5,h6,h7⟩
  rw[hT0]
  refine Ya (λa V=>V=[Ob.row 2 [P0],Ob.row 4 [T0],Ob.row 9 [[.str f.car,.str f.frm,.str f.dst,.str f.bas,.str f.cls,.bool f.rnd,.int .i64 f.amt,.int .i64 f.rul,.int .i64 f.rou]]]/\gQ a 136 (a[13]?=some (.loc 2 0 0)) [(3,.sl 8 (l.map Wnt.enc) lx),(4,.str s),(5,.int .i64 sale),(6,.loc 0 0 0),(7,.loc 1 0 0)]) ?_ ?_
  ·simp only[push_cast,hal,h2,h3,h4,h5,h6,h7,hge,hf,Far.enc,↓WX,simprocAttr]
   rw[hT0]
  rintro a V ⟨hV,hal,h3,h4,h5,h6,h7,h13⟩
  have g0:V[0]?=some (Ob.row 2 [[.sl 5 (p.aps.map Apt.enc) p.apsx,.sl 3 (p.dts.map Dst.enc) p.dtsx]]):=by rw[hV,hP0];rfl
  have g1:V[1]?=some (Ob.row 4 [[.sl 9 (t.fares.map Far.enc) t.fx,.sl 15 (t.rules.map Rul.enc) t.rx,.sl 3 (t.rous.map Rou.enc) t.ox,.sl 7 (t.taxes.map Tx.enc) t.tx]]):=by rw[hV,hT0];rfl
  have g2:V[2]?=some (Ob.row 9 [[.str f.car,.str f.frm,.str f.dst,.str f.bas,.str f.cls,.bool f.rnd,.int .i64 f.amt,.int .i64 f.rul,.int .i64 f.rou]]):=by rw[hV];rfl
  clear hV hP0 hT0 P0 T0
  have hfmf:=hfm f
  obtain⟨mi,hmi⟩:∃mi,mi=if f.rou=0 then 0 else milF (rouT t f.rou):=⟨_,rfl⟩
  rw[<-hmi]at hfmf
  have hfo:=hfo mi
  have hwy:wyN p t f cs=if f.rou≠0/\ralF (rouT t f.rou) cs=false then 21 else if 0<mi then (ofN p cs mi).2 else 0:=by
   unfold wyN
   rw[hmi]
   by_cases e:f.rou=0
   ·rw[if_pos e,if_pos e,if_neg (λh=>h.1 e),if_neg (by decide)]
   ·rw[if_neg e,if_neg e]
    by_cases e2:ralF (rouT t f.rou) cs=true
    ·have e4:¬(f.rou≠0/\ralF (rouT t f.rou) cs=false):=λh=>by rw[e2]at h;cases h.2
     rw[if_pos e2,if_neg e4]
     by_cases e3:milF (rouT t f.rou)<=0
     ·rw[if_pos e3,if_neg (by omega)]
     ·rw[if_neg e3,if_pos (by omega)]
    ·rw[if_neg e2,if_pos ⟨e,by simpa using e2⟩]
  clear hmi
  rw[hwy]at hz
  generalize ofN p cs mi=w at*
  obtain⟨wq,we⟩:=w
  dsimp only at hfo hz
  clear hwy
  obtain⟨ec,hec⟩:∃ec:List Wnt->Bool->Prop,∀q b,ec q b↔(b= !(q.any λq=> !decide (q.cls=f.cls))):=⟨_,λ_ _=>Iff.rfl⟩
  obtain⟨PC,hPC0,hPCs,hPCl⟩:=takeP l λw=>w.car=f.car
  have hcarN:∀x∈l,¬x.car=f.car->z=19:=λx hx hn=>by
   rw[hz,if_neg]
   unfold endF
   intro h
   rw[Kv]at h
   exact hn (Vb (List.all_eq_true.1 h.1 x hx))
  refine Ya (λa W=>W=V/\gQ a 136 (a[14]?=some (.sl 1 (cs.map Cnd.encT) cx)) [(3,.sl 8 (l.map Wnt.enc) lx),(4,.str s),(5,.int .i64 sale),(6,.loc 0 0 0),(7,.loc 1 0 0),(13,.loc 2 0 0)]) ?_ ?_
  ·simp only[push_cast,hal,h3,h4,h5,h6,h7,h13,g0,hcs,↓WX,simprocAttr]
  rintro a W ⟨rfl,hal,h3,h4,h5,h6,h7,h13,h14⟩
  refine Ya (λa V=>V=W/\gQ a 136 (a[15]?=some (.bool true)) [(3,.sl 8 (l.map Wnt.enc) lx),(4,.str s),(5,.int .i64 sale),(6,.loc 0 0 0),(7,.loc 1 0 0),(13,.loc 2 0 0),(14,.sl 1 (cs.map Cnd.encT) cx)]) ?_ ?_
  ·simp only[push_cast,hal,h3,h4,h5,h6,h7,h13,h14,↓WX,simprocAttr]
  rintro a V ⟨rfl,hal,h3,h4,h5,h6,h7,h13,h14,h15⟩
  refine Za (λa W=>(W=V/\(PC l.length/\∃b:Bool,a[15]?=some (.bool b)/\ec l b))/\gQ a 136 (a[14]?=some (.sl 1 (cs.map Cnd.encT) cx)) [(3,.sl 8 (l.map Wnt.enc) lx),(4,.str s),(5,.int .i64 sale),(6,.loc 0 0 0),(7,.loc 1 0 0),(13,.loc 2 0 0)]) ?_ ?_
  ·simp only[push_cast,↓WX,simprocAttr]
   refine Yk (λi a T=>(T=V/\PC i/\∃b:Bool,a[15]?=some (.bool b)/\ec (l.take i) b)/\a.length=136/\a[3]?=some (.sl 8 (l.map Wnt.enc) lx)/\a[4]?=some (.str s)/\a[5]?=some (.int .i64 sale)/\a[6]?=some (.loc 0 0 0)/\a[7]?=some (.loc 1 0 0)/\a[13]?=some (.loc 2 0 0)/\a[14]?=some (.sl 1 (cs.map Cnd.encT) cx)/\a[16]?=some (.int .i64 i)) l.length ?_ (by omega) ?_
   ·simp only[push_cast,hal,h3,h4,h5,h6,h7,h13,h14,h15,simprocAttr,WY]
    exact⟨hPC0,_,rfl,(hec _ _).2 rfl⟩
   rintro i a T hi ⟨⟨rfl,hpc,b,h15,hb⟩,hal,h3,h4,h5,h6,h7,h13,h14,h16⟩
   rcases Kw hi with hlt |rfl
   case inr=>
    simp only[push_cast,hal,h3,h4,h5,h6,h7,h13,h14,h15,h16,↓WX,simprocAttr,WY]
    rw[Vi]at hb
    exact⟨hpc,_,rfl,hb⟩
   have hltc:(i:Int)<l.length:=by omega
   obtain⟨x,hx⟩:∃x,l[i]?=some x:=⟨l[i],by simp⟩
   cases e1:decide (x.car=f.car)
   ·have hz19:=hcarN x (Kx hx) (Vc e1)
    rw[hz19]
    simp only[push_cast,hal,h3,h4,h5,h6,h7,h13,h14,h15,h16,g2,hltc,hx,e1,Yo,Wnt.enc,Tryz.f33,↓WX,simprocAttr,WY]
   have hpc1:=hPCs i x hx hpc (Vb e1)
   have hb1:ec (l.take (i+1)) (b && decide (x.cls=f.cls)):=(hec _ _).2 (by
    rw[(hec _ _).1 hb,List.take_add_one,hx,Option.toList_some,List.any_append,List.any_cons,List.any_nil,Bool.or_false,Bool.not_or,Bool.not_not])
   cases b
   ·simp(disch:=omega)only[push_cast,hal,h3,h4,h5,h6,h7,h13,h14,h15,h16,g2,hltc,hlt,hx,e1,Yo,Wnt.enc,Yf,↓WX,simprocAttr,WY]
    exact⟨hpc1,_,rfl,hb1⟩
   ·simp(disch:=omega)only[push_cast,hal,h3,h4,h5,h6,h7,h13,h14,h15,h16,g2,hltc,hlt,hx,e1,Yo,Wnt.enc,Yf,↓WX,simprocAttr,WY]
    exact⟨hpc1,_,rfl,hb1⟩
  rintro a W ⟨⟨rfl,hpc,b,h15,hb⟩,hal,h3,h4,h5,h6,h7,h13,h14⟩
  have hall:(l.all λw=>decide (w.car=f.car))=true:=List.all_eq_true.2 λx hx=>Ue (hPCl hpc x hx)
  have hb:=(hec _ _).1 hb
  clear hcarN hPC0 hPCs hPCl hpc hec
  have hc0:0<cs.length:=by omega
  have hc0c:(0:Int)<cs.length:=by omega
  have hgc:(0<=(cs.length:Int)-1)=True:=eq_true (by omega)
  have htc':((cs.length:Int)-1).toNat=cs.length-1:=by omega
  have hcl1:cs.length-1<cs.length:=by omega
  have hwc:IntKind.i64.wrap ((cs.length:Int)-1)=(cs.length:Int)-1:=Yf (by omega) (by omega)
  obtain⟨u,hu⟩:∃u,cs[0]?=some u:=⟨cs[0],by simp⟩
  obtain⟨v,hv⟩:∃v,cs[cs.length-1]?=some v:=⟨cs[cs.length-1],by simp⟩
  have hen:endF f l cs=(decide (u=f.frm) && decide (v=f.dst)):=by
   unfold endF
   rw[hall,Bool.true_and,hu,hv]
   rfl
  rw[hen]at hz
  clear hen
  refine Za (λa V=>V=W/\(decide (u=f.frm)=true/\decide (v=f.dst)=true)/\a[15]?=some (.bool b)/\gQ a 136 (a[14]?=some (.sl 1 (cs.map Cnd.encT) cx)) [(3,.sl 8 (l.map Wnt.enc) lx),(4,.str s),(5,.int .i64 sale),(6,.loc 0 0 0),(7,.loc 1 0 0),(13,.loc 2 0 0)]) ?_ ?_
  ·cases e1:decide (u=f.frm)
   ·rw[e1,Bool.false_and,if_neg (by decide)]at hz
    rw[hz]
    simp only[push_cast,Up,hal,h13,h14,g2,hu,e1,Yo,Cnd.encT,Tryz.f33,↓WX,simprocAttr,WY]
   cases e2:decide (v=f.dst)
   ·rw[e2,Bool.and_false,if_neg (by decide)]at hz
    rw[hz]
    simp only[push_cast,hal,h13,h14,g2,hgc,htc',hwc,hu,hv,e1,e2,Yo,Cnd.encT,Tryz.f33,↓WX,simprocAttr,WY]
   ·simp only[push_cast,hal,h3,h4,h5,h6,h7,h13,h14,h15,g2,hgc,htc',hwc,hu,hv,e1,e2,Yo,Cnd.encT,↓WX,simprocAttr,WY]
  clear hu hv hwc hcl1 htc' hgc hc0 hc0c
  rintro a V ⟨rfl,⟨e1,e2⟩,h15,hal,h3,h4,h5,h6,h7,h13,h14⟩
  rw[e1,e2,Bool.and_self,if_pos rfl]at hz
  clear e1 e2
  have hz2:z=if b=false then 16 else if alwF (rulT t f.rul) tf=0 then (if f.rou≠0/\ralF (rouT t f.rou) cs=false then 21 else if 0<mi then we else 0) else alwF (rulT t f.rul) tf:=by
   rw[hz,hb]
   cases (l.any λq=> !decide (q.cls=f.cls)) <;> rfl
  clear hz
  refine Za (λa W=>b=true/\W=V/\gQ a 136 (a[14]?=some (.sl 1 (cs.map Cnd.encT) cx)) [(3,.sl 8 (l.map Wnt.enc) lx),(4,.str s),(5,.int .i64 sale),(6,.loc 0 0 0),(7,.loc 1 0 0),(13,.loc 2 0 0)]) ?_ ?_
  ·cases b
   ·rw[if_pos rfl]at hz2
    rw[hz2]
    simp only[push_cast,hal,h15,Tryz.f33,↓WX,simprocAttr,WY]
   ·clear hb hz2
    simp only[push_cast,hal,h3,h4,h5,h6,h7,h13,h14,h15,↓WX,simprocAttr,WY]
  rintro a W ⟨hbt,rfl,hal,h3,h4,h5,h6,h7,h13,h14⟩
  rw[if_neg (by rw[hbt];decide)]at hz2
  clear hb hbt
  unfold rulT at hz2
  have hruf:=hru f.rul
  have hof:∀r,t.rules.find? (λr=>decide (r.num=f.rul))=some r->Yn r.when.enc<=1048576:=λr h=>htg.cn r (List.mem_of_find?_eq_some h)
  generalize t.rules.find? (λr=>decide (r.num=f.rul))=o at hruf hof hz2
  generalize o.isSome=q at hruf
  have hal21:=ha21 o hof
  generalize alwF o tf=ea at hal21 hz2
  obtain⟨y1,y2,y3,y4,y5,y6,y7,y8,y9,y10,y11,y12,y13,y14,hy,⟨r1,r2,r3,r4,r5,r6,r7⟩,r8,r9,r10,r11,r12,r13,r14⟩:=Jy o
  rw[hy]at hruf hal21
  simp only[D.one]at r1 r2 r3 r4 r5 r6 r7 r8 r9 r10 r11 r12 r13 r14
  generalize numF o=y0 at*
  refine Ya (λa V=>V=W++[Ob.row 15 [[.int .i64 y0,y1,y2,y3,y4,y5,y6,y7,y8,y9,y10,y11,y12,y13,y14]]]/\gQ a 136 (a[17]?=some (.loc W.length 0 0)) [(3,.sl 8 (l.map Wnt.enc) lx),(4,.str s),(5,.int .i64 sale),(6,.loc 0 0 0),(7,.loc 1 0 0),(13,.loc 2 0 0),(14,.sl 1 (cs.map Cnd.encT) cx)]) ?_ ?_
  ·simp only[push_cast,hal,h3,h4,h5,h6,h7,h13,h14,g1,g2,hruf,Yl,Yq,r1,r2,r3,r4,r5,r6,r7,r8,r9,r10,r11,r12,r13,r14,↓WX,simprocAttr]
  rintro a V ⟨hV,hal,h3,h4,h5,h6,h7,h13,h14,h17⟩
  replace g0:=Ym (J:=[Ob.row 15 [[.int .i64 y0,y1,y2,y3,y4,y5,y6,y7,y8,y9,y10,y11,y12,y13,y14]]]) g0
  replace g1:=Ym (J:=[Ob.row 15 [[.int .i64 y0,y1,y2,y3,y4,y5,y6,y7,y8,y9,y10,y11,y12,y13,y14]]]) g1
  replace g2:=Ym (J:=[Ob.row 15 [[.int .i64 y0,y1,y2,y3,y4,y5,y6,y7,y8,y9,y10,y11,y12,y13,y14]]]) g2
  have g3:V[W.length]?=some (Ob.row 15 [[.int .i64 y0,y1,y2,y3,y4,y5,y6,y7,y8,y9,y10,y11,y12,y13,y14]]):=by rw[hV];exact Yl
  rw[<-hV]at g0 g1 g2
  clear hV
  refine Ya (λa W=>W=V/\gQ a 136 (a[19]?=some (.int .i64 ea)) [(6,.loc 0 0 0),(7,.loc 1 0 0),(13,.loc 2 0 0),(14,.sl 1 (cs.map Cnd.encT) cx)]) ?_ ?_
  ·simp only[push_cast,hal,h3,h4,h5,h6,h7,h13,h14,h17,g0,g3,htc,hal21,↓WX,simprocAttr]
  rintro a W ⟨rfl,hal,h6,h7,h13,h14,h19⟩
  clear g3
  refine Za (λa V=>decide (ea=0)=true/\V=W/\gQ a 136 (a[19]?=some (.int .i64 ea)) [(6,.loc 0 0 0),(7,.loc 1 0 0),(13,.loc 2 0 0),(14,.sl 1 (cs.map Cnd.encT) cx)]) ?_ ?_
  ·cases e1:decide (ea=0)
   ·rw[if_neg (Vc e1)]at hz2
    rw[hz2]
    simp only[push_cast,decide_not,hal,h19,e1,Tryz.f33,↓WX,simprocAttr,WY]
   ·simp only[push_cast,decide_not,hal,h6,h7,h13,h14,h19,e1,↓WX,simprocAttr,WY]
  rintro a V ⟨hea,rfl,hal,h6,h7,h13,h14,h19⟩
  rw[if_pos (Vb hea)]at hz2
  obtain rfl:ea=0:=Vb hea
  clear hea
  unfold rouT at hz2
  have hrof:=hro f.rou
  have hofr:∀r,t.rous.find? (λr=>decide (r.num=f.rou))=some r->r.links.length<=1048576:=λr h=>htg.lk r (List.mem_of_find?_eq_some h)
  generalize t.rous.find? (λr=>decide (r.num=f.rou))=o2 at hrof hofr hz2
  generalize o2.isSome=q2 at hrof
  have ha22:=RRAllows_x (n:=m) o2 hofr cs cx (by omega) (by omega)
  generalize ralF o2 cs=b22 at ha22 hz2
  obtain⟨z0,z1,z2,hz,s0,s1,s2⟩:=rou_lit o2
  rw[hz]at hrof ha22
  simp only[D.one]at s0 s1 s2
  refine Ya (λa W=>W=V++[Ob.row 3 [[z0,z1,z2]]]/\gQ a 136 (a[20]?=some (.loc V.length 0 0)) [(6,.loc 0 0 0),(7,.loc 1 0 0),(13,.loc 2 0 0),(14,.sl 1 (cs.map Cnd.encT) cx),(19,.int .i64 0)]) ?_ ?_
  ·simp only[push_cast,hal,h6,h7,h13,h14,h19,g1,g2,hrof,Yl,Yq,s0,s1,s2,↓WX,simprocAttr]
  rintro a W ⟨hV,hal,h6,h7,h13,h14,h19,h20⟩
  replace g0:=Ym (J:=[Ob.row 3 [[z0,z1,z2]]]) g0
  replace g1:=Ym (J:=[Ob.row 3 [[z0,z1,z2]]]) g1
  replace g2:=Ym (J:=[Ob.row 3 [[z0,z1,z2]]]) g2
  have g3:W[V.length]?=some (Ob.row 3 [[z0,z1,z2]]):=by rw[hV];exact Yl
  rw[<-hV]at g0 g1 g2
  clear hV
  obtain⟨Z1,hZ1⟩:∃Z1:Prop,Z1↔z=if 0<mi then we else 0:=⟨_,Iff.rfl⟩
  refine Za (λa V=>Z1/\V=W/\gQ a 136 (a[19]?=some (.int .i64 0)) [(6,.loc 0 0 0),(7,.loc 1 0 0),(13,.loc 2 0 0),(14,.sl 1 (cs.map Cnd.encT) cx)]) ?_ ?_
  ·cases e1:decide (f.rou=0)
   ·cases b22
    ·rw[if_pos ⟨Vc e1,rfl⟩]at hz2
     rw[hz2]
     simp only[push_cast,decide_not,hal,h6,h7,h13,h14,h19,h20,g2,g3,ha22,e1,Tryz.f33,↓WX,simprocAttr,WY]
    ·rw[if_neg (λh=>by cases h.2)]at hz2
     simp only[push_cast,decide_not,hal,h6,h7,h13,h14,h19,h20,g2,g3,ha22,e1,↓WX,simprocAttr,WY]
     exact hZ1.2 hz2
   ·rw[if_neg (λh=>h.1 (Vb e1))]at hz2
    simp only[push_cast,decide_not,hal,h6,h7,h13,h14,h19,g2,e1,↓WX,simprocAttr,WY]
    exact hZ1.2 hz2
  rintro a V ⟨hz1,rfl,hal,h6,h7,h13,h14,h19⟩
  replace hz1:=hZ1.1 hz1
  clear hz2 hZ1
  refine Za (λa W=>(W=V/\a[19]?=some (.int .i64 z))/\a.length=136/\a[7]?=some (.loc 1 0 0)) ?_ ?_
  ·cases e1:decide (mi>0)
   ·rw[if_neg (show ¬0<mi from Vc e1)]at hz1
    rw[hz1]
    simp only[push_cast,Vn,hal,h7,h13,h19,g1,g2,hfmf,e1,↓WX,simprocAttr,WY]
   ·rw[if_pos (show 0<mi from Vb e1)]at hz1
    rw[hz1]
    simp only[push_cast,Vn,hal,h6,h7,h13,h14,g0,g1,g2,hfmf,hfo,e1,↓WX,simprocAttr,WY]
  rintro a W ⟨⟨rfl,h19⟩,hal,h7⟩
  simp only[push_cast,hal,h19,Tryz.f33,↓WX,simprocAttr]
 obtain⟨_,T,ho,rfl⟩:=this
 exact λst S=>Yd rfl (by simp only[Yc,Yg,D.pure,Jd,Ua]at hp hpt ⊢;rw[Kv];exact⟨hp,hpt⟩) ho rfl
end
end Go.Proofs.YtaklebjoenophaaGreat.Dm
