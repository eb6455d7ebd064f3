/-
  The search for the cheapest price: all ways on from a segment.
-/
import Derived.Test.YtaklebjoenophaaGreatDq
set_option maxHeartbeats 64000000
set_option maxRecDepth 100000
set_option linter.unusedSimpArgs false
set_option linter.unusedVariables false
namespace Go.Proofs.YtaklebjoenophaaGreat.Dm
open Go Gw
structure Frm (kS:Nat) (T:List Ob) (dp:D) (U:List Ob) (dp':D):Prop where
 ln:T.length<=U.length
 kp:∀k o,k≠kS->(∀n,dp=.os k 0 n false->False)->T[k]?=some o->U[k]?=some o
 nw:∀k n,dp'=.os k 0 n false->T.length<=k∨∃n',dp=.os k 0 n' false
section
variable {kS : Nat} {T U V : List Ob} {dp dp' dp'' : D}
theorem Frm.refl:Frm kS T dp T dp:=⟨Yt _,λ_ _ _ _ h=>h,λk n h=>.inr ⟨n,h⟩⟩
theorem Frm.trans (h:Frm kS T dp U dp') (g:Frm kS U dp' V dp''):Frm kS T dp V dp'':=by
 refine⟨Zu h.ln g.ln,λk o hk hd ho=>g.kp k o hk (λn hn=>?_) (h.kp k o hk hd ho),λk n hn=>?_⟩
 ·rcases h.nw k n hn with h1 | ⟨n',h1⟩
  ·have:=lt_of_some ho
   omega
  ·exact hd n' h1
 ·rcases g.nw k n hn with h1 | ⟨n',h1⟩
  ·exact .inl (Zu h.ln h1)
  ·exact h.nw k n' h1
theorem Frm.ext (g:ExtS T U) (hl:T.length<=U.length):Frm kS T dp U dp:=⟨hl,λ_ _ _ _ h=>g _ _ h,λk n h=>.inr ⟨n,h⟩⟩
end
theorem wrt_le {s:Srch} {l:List Prt} {sum:Int} {b:Option Quo} {x:Prt} (h:s.wrt l sum b x=true) (hL:∀r,s.least x.to.toNat=some r->0<=r):sum+x.am<=1099511627776:=by
 unfold Srch.wrt at h
 split at h
 ·cases h
 ·rename_i r hr
  split at h
  ·cases h
  ·have:=hL r hr
   omega
section
variable {n : Nat}
theorem Pfrom_d {W:Nat->Nat->Int->Int} {A:Nat->Nat->Int->Int×Int} {p:Plc} (hp:PlG p) {t:Trf} (ht:TrG t) {w:List Wnt} {wx:Bool} {s:ByteArray} {sale:Int} (hw0:w≠[]) (hw:w.length<=800) (htm:∀u∈w,u.tm) {ko kl:Nat} {T0:List Ob} {kS:Nat}
  {ds:List D} (hko:T0[ko]?=some (.row 1 (ds.map λd=>[d]))) (hdl:ds.length=w.length) (hop:∀(j:Nat) d,ds[j]?=some d->LR 4 Prt.enc T0 d ((srcF W A pctF p t w s).opts j)) (hpt:∀j,∀x∈(srcF W A pctF p t w s).opts j,(j:Int)<x.to/\x.to<=w.length/\0<=x.am/\x.am<=1099511627776) (hol:∀j,((srcF W A pctF p t w s).opts j).length<=1000000)
  {Ls:List Int} (hkl:T0[kl]?=some (.row 1 (Ls.map encZ))) (hLl:Ls.length=w.length+1) (hLs:∀i,i<=w.length->Ls[i]?=some (lsI ((srcF W A pctF p t w s).least i))) (hLb:∀i r,i<=w.length->(srcF W A pctF p t w s).least i=some r->0<=r/\r<=1125899906842624) (m0:Nat) (hm0:3000000<=m0):
  ∀(k i:Nat),i<=w.length->w.length<=i+k->∀ {T:List Ob} {dp:D} {l:List Prt} {sum:Int} {c0 c1 c2:D} {c3 c4:Int} {fd:Bool} {b:Option Quo},Sea p t w wx s sale ko kl T0 kS T dp l sum c0 c1 c2 c3 c4 fd b->0<=sum/\sum<=1099511627776->(∀x∈l,0<=x.am)->l.length<=i->(0<i->l≠[])->
  WO (dcall E (m0+k+1) 25 [.loc kS 0 0,.int .i64 i] T) λr U=>r=.tup []/\∃dp' c0 c1 c2 c3 c4 fd,Sea p t w wx s sale ko kl T0 kS U dp' l sum c0 c1 c2 c3 c4 fd ((srcF W A pctF p t w s).frm k i l sum b)/\Frm kS T dp U dp':=by
 intro k
 induction k with
 |zero=>
  intro i hi hik T dp l sum c0 c1 c2 c3 c4 fd b h hsum ham hll hl0
  obtain rfl:i=w.length:=by omega
  have hwp:0<w.length:=List.length_pos_iff.2 hw0
  obtain⟨m1,hm1⟩:∃m1,m0=m1+1:=⟨m0-1,by omega⟩
  obtain⟨r,U,hF,rfl,hlU,hkU,d0,d1,d2,d3,d4,fd',hS⟩:=Pfinish_d (W:=W) (A:=A) (n:=m1) hp ht hw0 (by omega) htm h (hl0 hwp) (by omega) ham (by omega)
  rw[<-hm1]at hF
  have cF:∀st,callD E (dcall E m0) st T 53 [.loc kS 0 0]=some (.tup [],U):=λst=>hF
  have gS:=h.row
  unfold seaR at gS
  rw[show m0+0=m0 from rfl,show (srcF W A pctF p t w s).frm 0 w.length l sum b=(srcF W A pctF p t w s).fin l b from if_pos rfl]
  refine wo_dcall Tryz.func25 rfl (by decide) rfl 81 rfl (λa hal ha=>?_)
  have h0:a[0]?=some (.loc kS 0 0):=ha 0 (by simp)
  have h1:a[1]?=some (.int .i64 w.length):=ha 1 (by simp)
  clear ha
  simp(maxSteps:=1000000)(disch:=omega)only[push_cast,hal,h0,h1,gS,cF,decide_true,Tryz.f25,↓WX,simprocAttr]
  exact⟨_,_,_,_,_,_,_,hS,⟨hlU,λk o hk _ ho=>hkU k o hk ho,λk n hn=>.inr ⟨n,hn⟩⟩⟩
 |succ k ih=>
  intro i hi hik T dp l sum c0 c1 c2 c3 c4 fd b h hsum ham hll hl0
  by_cases hin:i=w.length
  ·subst hin
   have hwp:0<w.length:=List.length_pos_iff.2 hw0
   obtain⟨m1,hm1⟩:∃m1,m0+(k+1)=m1+1:=⟨m0+k,by omega⟩
   obtain⟨r,U,hF,rfl,hlU,hkU,d0,d1,d2,d3,d4,fd',hS⟩:=Pfinish_d (W:=W) (A:=A) (n:=m1) hp ht hw0 (by omega) htm h (hl0 hwp) (by omega) ham (by omega)
   rw[<-hm1]at hF
   generalize m0+(k+1)=mm at*
   have cF:∀st,callD E (dcall E mm) st T 53 [.loc kS 0 0]=some (.tup [],U):=λst=>hF
   have gS:=h.row
   unfold seaR at gS
   rw[show (srcF W A pctF p t w s).frm (k+1) w.length l sum b=(srcF W A pctF p t w s).fin l b from if_pos rfl]
   refine wo_dcall Tryz.func25 rfl (by decide) rfl 81 rfl (λa hal ha=>?_)
   have h0:a[0]?=some (.loc kS 0 0):=ha 0 (by simp)
   have h1:a[1]?=some (.int .i64 w.length):=ha 1 (by simp)
   clear ha
   simp(maxSteps:=1000000)(disch:=omega)only[push_cast,hal,h0,h1,gS,cF,decide_true,Tryz.f25,↓WX,simprocAttr]
   exact⟨_,_,_,_,_,_,_,hS,⟨hlU,λk o hk _ ho=>hkU k o hk ho,λk n hn=>.inr ⟨n,hn⟩⟩⟩
  have hin':((i:Int)=w.length)=False:=eq_false (by omega)
  have hilt:i<ds.length:=by omega
  obtain⟨d,hd⟩:∃d,ds[i]?=some d:=⟨ds[i],by simp⟩
  have hod:=hop i d hd
  have hptx:=hpt i
  have holi:=hol i
  obtain⟨xs,hxs⟩:∃xs,xs=(srcF W A pctF p t w s).opts i:=⟨_,rfl⟩
  obtain⟨fo,hfo⟩:∃fo:Option Quo->Prt->Option Quo,fo=(λb x=>if (srcF W A pctF p t w s).wrt l sum b x=true then (srcF W A pctF p t w s).frm k x.to.toNat (l++[x]) (sum+x.am) b else b):=⟨_,rfl⟩
  have hfr:(srcF W A pctF p t w s).frm (k+1) i l sum b=xs.foldl fo b:=by rw[hxs,hfo];exact if_neg hin
  rw[hfr]
  rw[<-hxs]at hod hptx holi
  have hkok:ko≠kS:=by
   rintro rfl
   obtain⟨r,hr⟩:=h.ks
   rw[hko]at hr
   have:=(Ob.row.inj (Yi hr)).1
   omega
  have hy:=lr_len Tryz.underlying37 hod
  simp only[push_cast]at hy
  have hod1:=hod.one
  simp only[D.one]at hod1
  have ih:=λ(i:Nat) (hi:i<=w.length) (hik:w.length<=i+k)=>@ih i hi hik
  have hke:m0+(k+1)=m0+k+1:=rfl
  rw[hke]
  have hmm:3000000<=m0+k+1:=by omega
  generalize m0+k+1=mm at*
  clear hfr hke
  have hilc:(i:Int)<w.length:=by omega
  have hi0:(0<=(i:Int))=True:=eq_true (by omega)
  have hilc':((i:Int)<(w.length:Int))=True:=eq_true hilc
  refine wo_dcall Tryz.func25 rfl (by decide) rfl 81 rfl (λa hal ha=>?_)
  have h0:a[0]?=some (.loc kS 0 0):=ha 0 (by simp)
  have h1:a[1]?=some (.int .i64 i):=ha 1 (by simp)
  clear ha
  refine wc_scut (λa V=>V=T/\a.length=81/\a[0]?=some (.loc kS 0 0)/\a[1]?=some (.int .i64 i)) ?_ ?_
  ·have gS:=h.row
   unfold seaR at gS
   simp(maxSteps:=1000000)(disch:=omega)only[push_cast,hal,h0,h1,gS,hin',decide_false,↓WX,simprocAttr]
  clear hal h0 h1 a
  rintro a V ⟨rfl,hal,h0,h1⟩
  have gS:=h.row
  unfold seaR at gS
  have gO:=h.kp _ _ hkok hko
  simp(maxSteps:=1000000)(disch:=omega)only[push_cast,hal,h0,h1,gS,gO,hi0,hilc',hd,hy,↓WX,simprocAttr]
  refine wl_loop (λm a U=>(∃dp' c0 c1 c2 c3 c4 fd,Sea p t w wx s sale ko kl T0 kS U dp' l sum c0 c1 c2 c3 c4 fd ((xs.take m).foldl fo b)/\Frm kS V dp U dp')/\a.length=81/\a[0]?=some (.loc kS 0 0)/\a[22]?=some (d)/\a[23]?=some (.int .i64 xs.length)/\a[24]?=some (.int .i64 m)) xs.length ?_ (by omega) ?_
  ·simp(maxSteps:=1000000)(disch:=omega)only[push_cast,hal,h0,Int.natCast_zero,simprocAttr]
   exact⟨_,_,_,_,_,_,_,h,Frm.refl⟩
  clear hal h0 h1 a
  clear gS gO h
  rintro m a U hmx ⟨⟨dp',c0,c1,c2,c3,c4,fd,h,hF⟩,hal,h0,h22,h23,h24⟩
  rcases Yf hmx with hlt |rfl
  case inr=>
   rw[Zs]at h
   simp(maxSteps:=1000000)(disch:=omega)only[push_cast,hal,h23,h24,Int.lt_irrefl,Tryz.f25,↓WX,simprocAttr]
   exact⟨_,_,_,_,_,_,_,h,hF⟩
  have hltc:(m:Int)<xs.length:=by omega
  obtain⟨x,hx⟩:∃x,xs[m]?=some x:=⟨xs[m],by simp⟩
  obtain⟨x1,x2,x3,x4⟩:=hptx x (Yg hx)
  have hfold:∀(f:Option Quo->Prt->Option Quo) (b:Option Quo),(xs.take (m+1)).foldl f b=f ((xs.take m).foldl f b) x:=λf b=>by
   rw[List.take_add_one,hx,List.foldl_append]
   rfl
  obtain⟨b',hb'⟩:∃b',b'=(xs.take m).foldl fo b:=⟨_,rfl⟩
  have hnext:(xs.take (m+1)).foldl fo b=if (srcF W A pctF p t w s).wrt l sum b' x=true then (srcF W A pctF p t w s).frm k x.to.toNat (l++[x]) (sum+x.am) b' else b':=by rw[hfold,<-hb',hfo]
  rw[<-hb']at h
  clear hb' hfold
  refine wc_scut (λa V=>V=U/\a.length=81/\a[0]?=some (.loc kS 0 0)/\a[22]?=some (d)/\a[23]?=some (.int .i64 xs.length)/\a[24]?=some (.int .i64 m)/\a[25]?=some (.bool true)) ?_ ?_
  ·simp(maxSteps:=1000000)(disch:=omega)only[push_cast,hal,h0,h22,h23,h24,hltc,↓WX,simprocAttr]
  clear hal h0 h22 h23 h24 a
  rintro a U' ⟨rfl,hal,h0,h22,h23,h24,h25⟩
  refine wc_scut (λa V=>V=U'/\a.length=81/\a[0]?=some (.loc kS 0 0)/\a[22]?=some (d)/\a[23]?=some (.int .i64 xs.length)/\a[24]?=some (.int .i64 m)) ?_ ?_
  ·simp(maxSteps:=1000000)(disch:=omega)only[push_cast,hal,h0,h22,h23,h24,h25,↓WX]
  clear hal h0 h22 h23 h24 h25 a
  rintro a U ⟨rfl,hal,h0,h22,h23,h24⟩
  rw[wc_seq,wc_block]
  refine wc_scut (λa X=>X=U++[.row 4 [[.int .i64 x.fr,.int .i64 x.to,.int .i64 x.fa,.int .i64 x.am]]]/\a.length=81/\a[0]?=some (.loc kS 0 0)/\a[5]?=some (.loc U.length 0 0)/\a[22]?=some (d)/\a[23]?=some (.int .i64 xs.length)/\a[24]?=some (.int .i64 m)) ?_ ?_
  ·have hap:=apl (enc:=Prt.enc) hx
   have hodU:LR 4 Prt.enc U d xs:=by
    rcases hod with ⟨h1,h2⟩ | ⟨x,h1,-⟩ | ⟨kk,es,h1,h2⟩
    ·exact .inl ⟨h1,h2⟩
    ·exact FLs.lr (.inr ⟨x,h1⟩)
    ·have h2:=h2 []
     rw[Za]at h2
     refine .inr (.inr ⟨kk,es,h1,λJ=>get_old (h.kp _ _ ?_ h2)⟩)
     rintro rfl
     obtain⟨r,hr⟩:=h.ks
     rw[h2]at hr
     have:=(Ob.row.inj (Yi hr)).1
     omega
   rcases hodU with ⟨-,rfl⟩ | ⟨lx,rfl,hk0⟩ | ⟨kk,es,rfl,hk0⟩
   ·cases hx
   case' inr.inr=>have hk0:=hk0 [];rw[Za]at hk0
   all_goals
    simp(maxSteps:=1000000)(disch:=omega)only[push_cast,hal,h0,h22,h23,h24,hap,hk0,hlt,hx,set_end,get_end,Prt.enc,↓WX,simprocAttr]
  clear hal h0 h22 h23 h24 a
  rintro a X ⟨hX,hal,h0,h5,h22,h23,h24⟩
  have hUX:ExtS U X:=by rw[hX];exact extS_app
  have hUXl:U.length<X.length:=by rw[hX,Yd,List.length_singleton];omega
  have hF1:=hF.trans (Frm.ext hUX (by omega))
  have h1:=h.ext hUX (by omega)
  have gx:X[U.length]?=some (.row 4 [[.int .i64 x.fr,.int .i64 x.to,.int .i64 x.fa,.int .i64 x.am]]):=by rw[hX];exact get_end
  have hdpU:∀n,dp'=.os U.length 0 n false->False:=λn hn=>by
   rcases h.pts with ⟨h',-⟩ | ⟨k1,es,h',-,hk⟩
   ·rw[h']at hn;cases hn
   ·rw[h']at hn
    obtain⟨rfl,-⟩:=D.os.inj hn
    exact absurd (lt_of_some hk) (Zv _)
  have hSU:kS≠U.length:=by have:=lt_of_some h.row;omega
  clear hX hUX hF h
  generalize U.length=kx at*
  have cw:=Pworth_x (W:=W) (A:=A) (n:=mm) ht h1 (by omega) (by omega) hkl hLl hLs hLb hsum x (by omega) x2 ⟨x3,x4⟩ (by omega)
  simp only[Prt.enc]at cw
  cases hwv:(srcF W A pctF p t w s).wrt l sum b' x
  ·rw[hwv]at cw
   rw[hwv,if_neg (by simp)]at hnext
   simp(maxSteps:=1000000)(disch:=omega)only[push_cast,hal,h0,h5,h22,h23,h24,gx,cw,hlt,Bool.not_false,wrap_ok,Int.natCast_add,Int.natCast_one,↓WX,simprocAttr]
   exact⟨_,_,_,_,_,_,_,by rw[hnext];exact h1,hF1⟩
  rw[hwv]at cw
  rw[if_pos hwv]at hnext
  refine wc_scut (λa V=>V=X/\a.length=81/\a[0]?=some (.loc kS 0 0)/\a[5]?=some (.loc kx 0 0)/\a[22]?=some (d)/\a[23]?=some (.int .i64 xs.length)/\a[24]?=some (.int .i64 m)) ?_ ?_
  ·simp(maxSteps:=1000000)(disch:=omega)only[push_cast,hal,h0,h5,h22,h23,h24,gx,cw,Bool.not_true,↓WX,simprocAttr]
  clear hal h0 h5 h22 h23 h24 a
  rintro a X' ⟨rfl,hal,h0,h5,h22,h23,h24⟩
  have hsw:sum+x.am<=1099511627776:=wrt_le hwv λr hr=>(hLb _ r (by omega) hr).1
  have hw1:IntKind.i64.wrap (sum+x.am)=sum+x.am:=wrap_ok (by omega) (by omega)
  obtain⟨k',T',a1,a2,a3,a4,a5⟩:=appS h1.pts h1.ln (by omega) x
  have gS:=h1.row
  have gS2:=a5 _ _ (λn hn=>by
   rcases h1.pts with ⟨h',-⟩ | ⟨k1,es,h',-,hk⟩
   ·rw[h']at hn;cases hn
   ·rw[h']at hn
    obtain⟨rfl,-⟩:=D.os.inj hn
    rw[hk]at gS
    have:=(Ob.row.inj (Yi gS)).1
    omega) gS
  have gx2:=a5 _ _ hdpU gx
  have hkp2:∀k o,k≠kS->T0[k]?=some o->T'[k]?=some o:=λk o hk ho=>a5 k o (λn hn=>by
   rcases h1.pts with ⟨h',-⟩ | ⟨k1,es,h',hN,-⟩
   ·rw[h']at hn;cases hn
   ·rw[h']at hn
    obtain⟨rfl,-⟩:=D.os.inj hn
    have:=lt_of_some ho
    omega) (h1.kp k o hk ho)
  have hb2:BstO T0.length T' (.os k' 0 (l.length+1) false) c0 c1 c2 c3 c4 fd b':=by
   have hbst:=h1.bst
   cases b' with
   |none=>exact hbst
   |some q=>
    obtain⟨g1,g2,g3,kb,g4,g5,g6,g7,g8,g9⟩:=hbst
    refine⟨g1,g2,g3,kb,g4,g5,λk2 n2 hn=>?_,a5 _ _ (λn hn=>g6 _ _ hn rfl) g7,g8.keepz λj es hj=>a5 _ _ (λn hn=>?_) hj,g9⟩
    ·obtain⟨rfl,-⟩:=D.os.inj hn
     rcases a4 with rfl | ⟨n,hn⟩
     ·have:=lt_of_some g7
      omega
     ·exact g6 _ _ hn
    ·rcases h1.pts with ⟨h',-⟩ | ⟨k1,es',h',-,hk⟩
     ·rw[h']at hn;cases hn
     ·rw[h']at hn
      obtain⟨rfl,-⟩:=D.os.inj hn
      rw[hk]at hj
      have:=(Ob.row.inj (Yi hj)).1
      omega
  have h2:=Sea.mk' (p:=p) (t:=t) (w:=w) (wx:=wx) (s:=s) (sale:=sale) (ko:=ko) (kl:=kl) (sum':=sum+x.am) h1.ks hkp2 (Zu h1.ln a3) gS2 a2 hb2
  have hlt2:=lt_of_some gS2
  unfold seaR at gS gS2 h2
  simp only[Prt.enc]at a1
  have hgA:=Yo (a:=Ob.row 19 [[.sl 5 (p.aps.map Apt.enc) p.apsx,.sl 3 (p.dts.map Dst.enc) p.dtsx,.sl 9 (t.fares.map Far.enc) t.fx,.sl 15 (t.rules.map Rul.enc) t.rx,.sl 3 (t.rous.map Rou.enc) t.ox,.sl 7 (t.taxes.map Tx.enc) t.tx,.sl 8 (w.map Wnt.enc) wx,.str s,.int .i64 sale,.os ko 0 w.length false,.os kl 0 (w.length+1) false,.os k' 0 (l.length+1) false,.int .i64 sum,c0,c1,c2,.int .i64 c3,.int .i64 c4,.bool fd]]) hlt2
  have gx3:(T'.set kS (.row 19 [[.sl 5 (p.aps.map Apt.enc) p.apsx,.sl 3 (p.dts.map Dst.enc) p.dtsx,.sl 9 (t.fares.map Far.enc) t.fx,.sl 15 (t.rules.map Rul.enc) t.rx,.sl 3 (t.rous.map Rou.enc) t.ox,.sl 7 (t.taxes.map Tx.enc) t.tx,.sl 8 (w.map Wnt.enc) wx,.str s,.int .i64 sale,.os ko 0 w.length false,.os kl 0 (w.length+1) false,.os k' 0 (l.length+1) false,.int .i64 sum,c0,c1,c2,.int .i64 c3,.int .i64 c4,.bool fd]]))[kx]?=some (.row 4 [[.int .i64 x.fr,.int .i64 x.to,.int .i64 x.fa,.int .i64 x.am]]):=by rw[Yc hSU];exact gx2
  have gx4:(T'.set kS (.row 19 [[.sl 5 (p.aps.map Apt.enc) p.apsx,.sl 3 (p.dts.map Dst.enc) p.dtsx,.sl 9 (t.fares.map Far.enc) t.fx,.sl 15 (t.rules.map Rul.enc) t.rx,.sl 3 (t.rous.map Rou.enc) t.ox,.sl 7 (t.taxes.map Tx.enc) t.tx,.sl 8 (w.map Wnt.enc) wx,.str s,.int .i64 sale,.os ko 0 w.length false,.os kl 0 (w.length+1) false,.os k' 0 (l.length+1) false,.int .i64 (sum+x.am),c0,c1,c2,.int .i64 c3,.int .i64 c4,.bool fd]]))[kx]?=some (.row 4 [[.int .i64 x.fr,.int .i64 x.to,.int .i64 x.fa,.int .i64 x.am]]):=by rw[Yc hSU];exact gx2
  refine wc_scut (λa V=>V=T'.set kS (.row 19 [[.sl 5 (p.aps.map Apt.enc) p.apsx,.sl 3 (p.dts.map Dst.enc) p.dtsx,.sl 9 (t.fares.map Far.enc) t.fx,.sl 15 (t.rules.map Rul.enc) t.rx,.sl 3 (t.rous.map Rou.enc) t.ox,.sl 7 (t.taxes.map Tx.enc) t.tx,.sl 8 (w.map Wnt.enc) wx,.str s,.int .i64 sale,.os ko 0 w.length false,.os kl 0 (w.length+1) false,.os k' 0 (l.length+1) false,.int .i64 (sum+x.am),c0,c1,c2,.int .i64 c3,.int .i64 c4,.bool fd]])/\a.length=81/\a[0]?=some (.loc kS 0 0)/\a[5]?=some (.loc kx 0 0)/\a[22]?=some (d)/\a[23]?=some (.int .i64 xs.length)/\a[24]?=some (.int .i64 m)) ?_ ?_
  ·rw[wc_plan (p:=steps [0,1,2,3,4,5,6,7,9,10,11,13] (.both (steps [8,12,16,17] (.both (steps [14,15,18,19,20,21] .done) (steps [18,14,15,19,20,21] .done))) (.both (steps [12] (.both (steps [8,16,17] (.both (steps [14,15,18,19,20,21] .done) (steps [18,14,15,19,20,21] .done))) (steps [14,8,15,16,17,18,19,20,21] .done))) (steps [14] (.both (steps [8,12,15,16,17,18,19,20,21] .done) (steps [12,8,15,16,17,18,19,20,21] .done)))))) rfl]
   rw[wp_pick rfl]
   simp only[opsOf,Yw,Zb,Yk,Yl,Yh]
   simp(maxSteps:=1000000)(disch:=omega)only[push_cast,hal,h0,h5,gS,gx,↓WX,simprocAttr]
   apply wp_both
   ·rw[wp_pick rfl]
    simp only[opsOf,Yw,Zb,Yk,Yl,Yh]
    simp(maxSteps:=1000000)(disch:=omega)only[push_cast,hal,gS2,a1,↓set_sorti,id_eq,↓WX,simprocAttr]
    apply wp_both
    ·rw[wp_pick rfl]
     simp only[opsOf,Yw,Zb,Yk,Yl,Yh]
     simp(maxSteps:=1000000)(disch:=omega)only[push_cast,hal,gS2,gx2,hgA,hw1,wp_done,Xf,↓set_sorti,id_eq,↓WX,simprocAttr]
     exact⟨rfl,rfl⟩
    ·rw[wp_pick rfl]
     simp only[opsOf,Yw,Zb,Yk,Yl,Yh]
     simp(maxSteps:=1000000)(disch:=omega)only[push_cast,hal,gS2,hgA,gx3,hw1,wp_done,Xf,↓set_sorti,id_eq,↓WX,simprocAttr]
    ·exact⟨rfl,rfl⟩
   ·apply wp_both
    ·rw[wp_pick rfl]
     simp only[opsOf,Yw,Zb,Yk,Yl,Yh]
     simp(maxSteps:=1000000)(disch:=omega)only[push_cast,hal,gS,↓set_sorti,id_eq,↓WX,simprocAttr]
     apply wp_both
     ·rw[wp_pick rfl]
      simp only[opsOf,Yw,Zb,Yk,Yl,Yh]
      simp(maxSteps:=1000000)(disch:=omega)only[push_cast,hal,a1,↓set_sorti,id_eq,↓WX,simprocAttr]
      apply wp_both
      ·rw[wp_pick rfl]
       simp only[opsOf,Yw,Zb,Yk,Yl,Yh]
       simp(maxSteps:=1000000)(disch:=omega)only[push_cast,hal,gS2,gx2,hgA,hw1,wp_done,Xf,↓set_sorti,id_eq,↓WX,simprocAttr]
       exact⟨rfl,rfl⟩
      ·rw[wp_pick rfl]
       simp only[opsOf,Yw,Zb,Yk,Yl,Yh]
       simp(maxSteps:=1000000)(disch:=omega)only[push_cast,hal,gS2,hgA,gx3,hw1,wp_done,Xf,↓set_sorti,id_eq,↓WX,simprocAttr]
      ·exact⟨rfl,rfl⟩
     ·rw[wp_pick rfl]
      simp only[opsOf,Yw,Zb,Yk,Yl,Yh]
      simp(maxSteps:=1000000)(disch:=omega)only[push_cast,hal,gx,gS2,hgA,a1,hw1,wp_done,Xf,↓set_sorti,id_eq,↓WX,simprocAttr]
     ·exact⟨rfl,rfl⟩
    ·rw[wp_pick rfl]
     simp only[opsOf,Yw,Zb,Yk,Yl,Yh]
     simp(maxSteps:=1000000)(disch:=omega)only[push_cast,hal,gx,↓WX,simprocAttr]
     apply wp_both
     ·rw[wp_pick rfl]
      simp only[opsOf,Yw,Zb,Yk,Yl,Yh]
      simp(maxSteps:=1000000)(disch:=omega)only[push_cast,hal,gS2,hgA,a1,hw1,wp_done,Xf,↓set_sorti,id_eq,↓WX,simprocAttr]
      exact⟨rfl,rfl⟩
     ·rw[wp_pick rfl]
      simp only[opsOf,Yw,Zb,Yk,Yl,Yh]
      simp(maxSteps:=1000000)(disch:=omega)only[push_cast,hal,gS,gS2,hgA,a1,hw1,wp_done,Xf,↓set_sorti,id_eq,↓WX,simprocAttr]
     ·exact⟨rfl,rfl⟩
    ·exact⟨rfl,rfl⟩
   ·simp(maxSteps:=1000000)(disch:=omega)only[push_cast,hal,h0,h5,h22,h23,h24,simprocAttr]
  clear hal h0 h5 h22 h23 h24 a
  have hF2:Frm kS X' dp' (T'.set kS (.row 19 [[.sl 5 (p.aps.map Apt.enc) p.apsx,.sl 3 (p.dts.map Dst.enc) p.dtsx,.sl 9 (t.fares.map Far.enc) t.fx,.sl 15 (t.rules.map Rul.enc) t.rx,.sl 3 (t.rous.map Rou.enc) t.ox,.sl 7 (t.taxes.map Tx.enc) t.tx,.sl 8 (w.map Wnt.enc) wx,.str s,.int .i64 sale,.os ko 0 w.length false,.os kl 0 (w.length+1) false,.os k' 0 (l.length+1) false,.int .i64 (sum+x.am),c0,c1,c2,.int .i64 c3,.int .i64 c4,.bool fd]])) (.os k' 0 (l.length+1) false):=by
   refine⟨by rw[Zg];exact a3,λj o hj hd ho=>by rw[Yc (λe=>hj e.symm)];exact a5 j o hd ho,λj n hn=>?_⟩
   obtain⟨rfl,-⟩:=D.os.inj hn
   rcases a4 with rfl |h
   ·exact .inl (Yt _)
   ·exact .inr h
  generalize T'.set kS (.row 19 [[.sl 5 (p.aps.map Apt.enc) p.apsx,.sl 3 (p.dts.map Dst.enc) p.dtsx,.sl 9 (t.fares.map Far.enc) t.fx,.sl 15 (t.rules.map Rul.enc) t.rx,.sl 3 (t.rous.map Rou.enc) t.ox,.sl 7 (t.taxes.map Tx.enc) t.tx,.sl 8 (w.map Wnt.enc) wx,.str s,.int .i64 sale,.os ko 0 w.length false,.os kl 0 (w.length+1) false,.os k' 0 (l.length+1) false,.int .i64 (sum+x.am),c0,c1,c2,.int .i64 c3,.int .i64 c4,.bool fd]])=Y at*
  clear hgA gx3 gS gS2 gx2 a1 a2 a5 hb2 hkp2
  rintro a V ⟨rfl,hal,h0,h5,h22,h23,h24⟩
  -- the ways behind the component
  have hll2:(l++[x]).length=l.length+1:=by rw[Yd];rfl
  have hxn:((x.to.toNat:Nat):Int)=x.to:=Int.toNat_of_nonneg (by omega)
  obtain⟨r,Z,hZ,rfl,dp2,e0,e1,e2,e3,e4,fe,h3,hF3⟩:=ih x.to.toNat (by omega) (by omega) h2 ⟨by omega,hsw⟩ (λy hy=>by
   rcases List.mem_append.1 hy with hy |hy
   ·exact ham y hy
   ·rw[List.mem_singleton.1 hy];exact x3) (by rw[hll2];omega) (λ_ h=>by rw[h]at hll2;cases hll2)
  rw[hxn]at hZ
  have cR:∀st,callD E (dcall E mm) st V 25 [.loc kS 0 0,.int .i64 x.to]=some (.tup [],Z):=λst=>hZ
  refine wc_scut (λa X=>X=Z/\a.length=81/\a[0]?=some (.loc kS 0 0)/\a[5]?=some (.loc kx 0 0)/\a[22]?=some (d)/\a[23]?=some (.int .i64 xs.length)/\a[24]?=some (.int .i64 m)) ?_ ?_
  ·simp(maxSteps:=1000000)(disch:=omega)only[push_cast,hal,h0,h5,h22,h23,h24,gx4,cR,↓WX,simprocAttr]
  clear hal h0 h5 h22 h23 h24 a
  clear cR hZ
  rintro a X ⟨rfl,hal,h0,h5,h22,h23,h24⟩
  have gxZ:X[kx]?=some (.row 4 [[.int .i64 x.fr,.int .i64 x.to,.int .i64 x.fa,.int .i64 x.am]]):=hF3.kp _ _ (λe=>hSU e.symm) (λn hn=>by
   obtain⟨rfl,-⟩:=D.os.inj hn
   rcases a4 with e | ⟨n',e⟩
   ·omega
   ·exact hdpU n' e) gx4
  obtain⟨k2,es,rfl,hN2,hk2⟩:∃k2 es,dp2=.os k2 0 (l.length+1) false/\T0.length<=k2/\X[k2]?=some (.row 4 ((l++[x]).map Prt.enc++es)):=by
   rcases h3.pts with ⟨-,h'⟩ | ⟨k2,es,h',hN2,hk2⟩
   ·rw[h']at hll2;cases hll2
   ·rw[hll2]at h'
    exact⟨k2,es,h',hN2,hk2⟩
  have hp4:PtsO T0.length X (.os k2 0 l.length false) l:=.inr ⟨k2,x.enc::es,rfl,hN2,by rw[hk2,List.map_append,Zp];rfl⟩
  have hb4:BstO T0.length X (.os k2 0 l.length false) e0 e1 e2 e3 e4 fe ((srcF W A pctF p t w s).frm k x.to.toNat (l++[x]) (sum+x.am) b'):=by
   have hbst:=h3.bst
   generalize (srcF W A pctF p t w s).frm k x.to.toNat (l++[x]) (sum+x.am) b'=b3 at*
   cases b3 with
   |none=>exact hbst
   |some q=>
    obtain⟨g1,g2,g3,kb,g4,g5,g6,g7,g8,g9⟩:=hbst
    exact⟨g1,g2,g3,kb,g4,g5,λk2 n2 hn=>by obtain⟨rfl,-⟩:=D.os.inj hn;exact g6 _ _ rfl,g7,g8,g9⟩
  have hS5:=h3.upd (sum':=sum) hp4 hb4
  have gS:=h3.row
  have hlt3:=lt_of_some gS
  unfold seaR at gS hS5
  have hF4:Frm kS X (.os k2 0 (l.length+1) false) (X.set kS (.row 19 [[.sl 5 (p.aps.map Apt.enc) p.apsx,.sl 3 (p.dts.map Dst.enc) p.dtsx,.sl 9 (t.fares.map Far.enc) t.fx,.sl 15 (t.rules.map Rul.enc) t.rx,.sl 3 (t.rous.map Rou.enc) t.ox,.sl 7 (t.taxes.map Tx.enc) t.tx,.sl 8 (w.map Wnt.enc) wx,.str s,.int .i64 sale,.os ko 0 w.length false,.os kl 0 (w.length+1) false,.os k2 0 l.length false,.int .i64 sum,e0,e1,e2,.int .i64 e3,.int .i64 e4,.bool fe]])) (.os k2 0 l.length false):=
   ⟨by rw[Zg];exact Yt _,λj o hj _ ho=>by rw[Yc (λe=>hj e.symm)];exact ho,λj n hn=>by obtain⟨rfl,-⟩:=D.os.inj hn;exact .inr ⟨_,rfl⟩⟩
  have hgC:=Yo (a:=Ob.row 19 [[.sl 5 (p.aps.map Apt.enc) p.apsx,.sl 3 (p.dts.map Dst.enc) p.dtsx,.sl 9 (t.fares.map Far.enc) t.fx,.sl 15 (t.rules.map Rul.enc) t.rx,.sl 3 (t.rous.map Rou.enc) t.ox,.sl 7 (t.taxes.map Tx.enc) t.tx,.sl 8 (w.map Wnt.enc) wx,.str s,.int .i64 sale,.os ko 0 w.length false,.os kl 0 (w.length+1) false,.os k2 0 l.length false,.int .i64 (sum+x.am),e0,e1,e2,.int .i64 e3,.int .i64 e4,.bool fe]]) hlt3
  have gx5:(X.set kS (.row 19 [[.sl 5 (p.aps.map Apt.enc) p.apsx,.sl 3 (p.dts.map Dst.enc) p.dtsx,.sl 9 (t.fares.map Far.enc) t.fx,.sl 15 (t.rules.map Rul.enc) t.rx,.sl 3 (t.rous.map Rou.enc) t.ox,.sl 7 (t.taxes.map Tx.enc) t.tx,.sl 8 (w.map Wnt.enc) wx,.str s,.int .i64 sale,.os ko 0 w.length false,.os kl 0 (w.length+1) false,.os k2 0 l.length false,.int .i64 (sum+x.am),e0,e1,e2,.int .i64 e3,.int .i64 e4,.bool fe]]))[kx]?=some (.row 4 [[.int .i64 x.fr,.int .i64 x.to,.int .i64 x.fa,.int .i64 x.am]]):=by rw[Yc hSU];exact gxZ
  have hw2:IntKind.i64.wrap (sum+x.am-x.am)=sum:=by rw[wrap_ok (by omega) (by omega)];omega
  have hw3:IntKind.i64.wrap ((l.length:Int)+1-1)=(l.length:Int):=by rw[wrap_ok (by omega) (by omega)];omega
  have hl1:(l.length<=l.length+1)=True:=eq_true (by omega)
  have hl2:(0<=(l.length:Int))=True:=eq_true (by omega)
  rw[wc_plan (p:=steps [0,1,2,3,4,5,6,7,8,9,10,11,12,13,14,15,16,17,20,21] (.both (steps [18,19,22,23,24,25] .done) (steps [22,18,19,23,24,25] .done))) rfl]
  rw[wp_pick rfl]
  simp only[opsOf,Yw,Zb,Yk,Yl,Yh]
  simp(maxSteps:=1000000)(disch:=omega)only[push_cast,hal,h0,h5,gS,hk2,hw3,hl1,hl2,Xb,Nat.sub_zero,Zv,and_false,Bool.false_and,Bool.not_false,Bool.or_true,↓WX,simprocAttr]
  apply wp_both
  ·rw[wp_pick rfl]
   simp only[opsOf,Yw,Zb,Yk,Yl,Yh]
   simp(maxSteps:=1000000)(disch:=omega)only[push_cast,hal,gS,gxZ,hgC,hw2,wp_done,Xf,↓set_sorti,id_eq,↓WX,simprocAttr]
   exact⟨rfl,rfl⟩
  ·rw[wp_pick rfl]
   simp only[opsOf,Yw,Zb,Yk,Yl,Yh]
   simp(maxSteps:=1000000)(disch:=omega)only[push_cast,hal,gS,hgC,gx5,hw2,wp_done,Xf,↓set_sorti,id_eq,↓WX,simprocAttr]
  simp(maxSteps:=1000000)(disch:=omega)only[push_cast,hal,h0,h22,h23,h24,hlt,wrap_ok,Int.natCast_add,Int.natCast_one,↓WX,simprocAttr]
  exact⟨_,_,_,_,_,_,_,by rw[hnext];exact hS5,hF1.trans (hF2.trans (hF3.trans hF4))⟩
end
end Go.Proofs.YtaklebjoenophaaGreat.Dm
