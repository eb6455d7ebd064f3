/-
  The fares that apply to a component: the program.
  What the search is prepared with: the plain law. The fares in their order, the least amounts by any fuel.
-/
import Derived.Test.YtaklebjoenophaaGreatPtD
set_option maxHeartbeats 64000000
set_option maxRecDepth 100000
set_option linter.unusedSimpArgs false
set_option linter.unusedVariables false
namespace Go.Proofs.YtaklebjoenophaaGreat.Dm
open Go Gw
noncomputable def fasF (p:Plc) (t:Trf) (l:List Wnt) (s:ByteArray) (sale:Int) (i:Nat):List Prt:=
 (List.range i).filterMap λ(f:Nat)=>if whyN p t f l s sale=0/\(amtN p t f l s).2=0 then some ⟨0,l.length,f,(amtN p t f l s).1⟩ else none
theorem fasF_succ {p:Plc} {t:Trf} {l:List Wnt} {s:ByteArray} {sale:Int} {i:Nat}:fasF p t l s sale (i+1)=if whyN p t i l s sale=0/\(amtN p t i l s).2=0 then fasF p t l s sale i++[⟨0,l.length,i,(amtN p t i l s).1⟩] else fasF p t l s sale i:=by
 unfold fasF
 rw[List.range_succ,List.filterMap_append]
 split
 ·rename_i c
  rw[Yw,if_pos c]
  rfl
 ·rename_i c
  rw[Yw,if_neg c]
  simp
theorem fasF_mem {p:Plc} {t:Trf} {l:List Wnt} {s:ByteArray} {sale:Int} {i:Nat} {x:Prt} (h:x∈fasF p t l s sale i):0<=x.fa/\x.fa<i:=by
 obtain⟨f,hf,e⟩:=List.mem_filterMap.1 h
 have:=List.mem_range.1 hf
 split at e
 ·obtain rfl:=Yi e
  exact⟨Int.natCast_nonneg f,by show (f:Int)<i;omega⟩
 ·cases e
theorem fasF_len {p:Plc} {t:Trf} {l:List Wnt} {s:ByteArray} {sale:Int} {i:Nat}:(fasF p t l s sale i).length<=i:=by
 have:=List.length_filterMap_le (λ(f:Nat)=>if whyN p t f l s sale=0/\(amtN p t f l s).2=0 then some (⟨0,l.length,f,(amtN p t f l s).1⟩:Prt) else none) (List.range i)
 rwa [List.length_range]at this
def FasR (N:Nat) (T:List Ob) (r:D) (fs:List Prt):Prop:=(r=.nils/\fs=[])∨∃k,r=.os k 0 fs.length false/\N<=k/\T[k]?=some (.row 4 (fs.map Prt.enc))
section
variable {n : Nat}
theorem PFares_d {S:List Ob} {p:Plc} (hp:PlG p) {t:Trf} (ht:TrG t) (l:List Wnt) (lx:Bool) (hl:l.length<=900) (s:ByteArray) (sale:Int) (hfl:t.fares.length<=19) (hn:70000000<=n):
  WO (dcall E (n+1) 50 [.agg p.enc,.agg t.enc,.sl 8 (l.map Wnt.enc) lx,.str s,.int .i64 sale] S) λr T=>ExtS S T/\S.length<=T.length/\∃fs:List Prt,fs.Perm (fasF p t l s sale t.fares.length)/\FasR S.length T r fs:=by
 have ap:∀ {T:List Ob} {d:D} {cs:List Prt},GL 4 Prt.enc T d cs->cs.length<=100000->∀c:Prt,∃S',dAppend Tryz.prog T 37 37 d (.sl 4 [[.int .i64 c.fr,.int .i64 c.to,.int .i64 c.fa,.int .i64 c.am]] true)=some (.os T.length 0 (cs.length+1) false,S')/\GL 4 Prt.enc S' (.os T.length 0 (cs.length+1) false) (cs++[c])/\S'.length=T.length+1/\(∀k o,(∀n,d=.os k 0 n false->False)->T[k]?=some o->S'[k]?=some o):=λh hc c=>by
  obtain⟨S',a1,a2,a3,a4,-⟩:=app_gl (t:=37) (e:=79) (z:=.agg [.int .i64 0,.int .i64 0,.int .i64 0,.int .i64 0]) (n:=3) elP szP zePart rfl byP h hc c
  exact⟨S',a1,a2,a3,a4⟩
 have cwy:=λ(i:Nat)=>PWhy_x (n:=n) hp ht (i:Int) l lx hl s sale (by omega)
 have cam:=λ(i:Nat)=>PAmount_x (n:=n) hp ht (i:Int) l lx hl s (by omega)
 obtain⟨r0,r0',-,cs0⟩:=Sort0 (n:=n) (by omega)
 simp only[Plc.enc,Trf.enc]at cwy cam ⊢
 refine wo_dcall Tryz.func50 rfl (by decide) rfl 52 rfl (λa hal ha=>?_)
 have h0:a[0]?=some (.agg [.sl 5 (p.aps.map Apt.enc) p.apsx,.sl 3 (p.dts.map Dst.enc) p.dtsx]):=ha 0 (by simp)
 have h1:a[1]?=some (.agg [.sl 9 (t.fares.map Far.enc) t.fx,.sl 15 (t.rules.map Rul.enc) t.rx,.sl 3 (t.rous.map Rou.enc) t.ox,.sl 7 (t.taxes.map Tx.enc) t.tx]):=ha 1 (by simp)
 have h2:a[2]?=some (.sl 8 (l.map Wnt.enc) lx):=ha 2 (by simp)
 have h3:a[3]?=some (.str s):=ha 3 (by simp)
 have h4:a[4]?=some (.int .i64 sale):=ha 4 (by simp)
 clear ha
 refine wc_scut (λa V=>V=S++[Ob.row 2 [[.sl 5 (p.aps.map Apt.enc) p.apsx,.sl 3 (p.dts.map Dst.enc) p.dtsx]]]++[Ob.row 4 [[.sl 9 (t.fares.map Far.enc) t.fx,.sl 15 (t.rules.map Rul.enc) t.rx,.sl 3 (t.rous.map Rou.enc) t.ox,.sl 7 (t.taxes.map Tx.enc) t.tx]]]/\a.length=52/\a[2]?=some (.sl 8 (l.map Wnt.enc) lx)/\a[3]?=some (.str s)/\a[4]?=some (.int .i64 sale)/\a[5]?=some (.loc S.length 0 0)/\a[6]?=some (.loc (S.length+1) 0 0)) ?_ ?_
 ·simp(maxSteps:=1000000)(disch:=omega)only[push_cast,hal,h0,h1,h2,h3,h4,Yd,Zd,↓WX,simprocAttr]
 clear hal h0 h1 h2 h3 h4 a
 rintro a V ⟨hV,hal,h2,h3,h4,h5,h6⟩
 have hSV:ExtS S V:=by rw[hV];exact λ_ _ h=>get_old (get_old h)
 have hVl:V.length=S.length+2:=by rw[hV,Yd,Yd];rfl
 have gP:V[S.length]?=some (Ob.row 2 [[.sl 5 (p.aps.map Apt.enc) p.apsx,.sl 3 (p.dts.map Dst.enc) p.dtsx]]):=by rw[hV];exact end0
 have gT:V[S.length+1]?=some (Ob.row 4 [[.sl 9 (t.fares.map Far.enc) t.fx,.sl 15 (t.rules.map Rul.enc) t.rx,.sl 3 (t.rous.map Rou.enc) t.ox,.sl 7 (t.taxes.map Tx.enc) t.tx]]):=by rw[hV];exact end1
 clear hV
 refine wc_scut (λa U=>U=V/\a.length=52/\a[2]?=some (.sl 8 (l.map Wnt.enc) lx)/\a[3]?=some (.str s)/\a[4]?=some (.int .i64 sale)/\a[5]?=some (.loc S.length 0 0)/\a[6]?=some (.loc (S.length+1) 0 0)/\a[11]?=some (.nils)) ?_ ?_
 ·simp(maxSteps:=1000000)(disch:=omega)only[push_cast,hal,h2,h3,h4,h5,h6,↓WX,simprocAttr]
 clear hal h2 h3 h4 h5 h6 a
 rintro a U ⟨rfl,hal,h2,h3,h4,h5,h6,h11⟩
 refine wc_scut (λa V=>(∃e,a[11]?=some e/\GL 4 Prt.enc V e (fasF p t l s sale t.fares.length)/\(∀k n,e=.os k 0 n false->S.length+1<k)/\ExtS S V/\S.length<=V.length)/\a.length=52) ?_ ?_
 ·simp(maxSteps:=1000000)(disch:=omega)only[push_cast,hal,h6,gT,↓WX,simprocAttr]
  refine wl_loop (λi a V=>(∃e,a[11]?=some e/\GL 4 Prt.enc V e (fasF p t l s sale i)/\(∀k n,e=.os k 0 n false->S.length+1<k)/\ExtS S V/\V[S.length]?=some (Ob.row 2 [[.sl 5 (p.aps.map Apt.enc) p.apsx,.sl 3 (p.dts.map Dst.enc) p.dtsx]])/\V[S.length+1]?=some (Ob.row 4 [[.sl 9 (t.fares.map Far.enc) t.fx,.sl 15 (t.rules.map Rul.enc) t.rx,.sl 3 (t.rous.map Rou.enc) t.ox,.sl 7 (t.taxes.map Tx.enc) t.tx]]))/\a.length=52/\a[2]?=some (.sl 8 (l.map Wnt.enc) lx)/\a[3]?=some (.str s)/\a[4]?=some (.int .i64 sale)/\a[5]?=some (.loc S.length 0 0)/\a[6]?=some (.loc (S.length+1) 0 0)/\a[16]?=some (.sl 9 (t.fares.map Far.enc) t.fx)/\a[17]?=some (.int .i64 t.fares.length)/\a[18]?=some (.int .i64 i)) t.fares.length ?_ (by omega) ?_
  ·simp(maxSteps:=1000000)(disch:=omega)only[push_cast,hal,h2,h3,h4,h5,h6,h11,gT,Int.natCast_zero,simprocAttr]
   exact⟨_,rfl,GL.nil,(λk n h=>by cases h),hSV,gP⟩
  clear hal h2 h3 h4 h5 h6 h11 a
  clear gP gT hSV hVl U
  rintro i a V hi ⟨⟨e,h11,hg,he,hx,gP,gT⟩,hal,h2,h3,h4,h5,h6,h16,h17,h18⟩
  rcases Yf hi with hlt |rfl
  case inr=>
   simp(maxSteps:=1000000)(disch:=omega)only[push_cast,hal,h11,h17,h18,Int.lt_irrefl,↓WX,simprocAttr]
   exact⟨_,rfl,hg,he,hx,by have:=lt_of_some gT;omega⟩
  have hltc:(i:Int)<t.fares.length:=by omega
  obtain⟨fs,hfs⟩:∃fs,fs=fasF p t l s sale i:=⟨_,rfl⟩
  rw[<-hfs]at hg
  have hfl2:fs.length<=i:=by rw[hfs];exact fasF_len
  have cwy:=cwy i
  have cam:=cam i
  have hsu:=fasF_succ (p:=p) (t:=t) (l:=l) (s:=s) (sale:=sale) (i:=i)
  refine wc_scut (λa T=>T=V/\a.length=52/\a[2]?=some (.sl 8 (l.map Wnt.enc) lx)/\a[3]?=some (.str s)/\a[4]?=some (.int .i64 sale)/\a[5]?=some (.loc S.length 0 0)/\a[6]?=some (.loc (S.length+1) 0 0)/\a[16]?=some (.sl 9 (t.fares.map Far.enc) t.fx)/\a[17]?=some (.int .i64 t.fares.length)/\a[18]?=some (.int .i64 i)/\a[11]?=some (e)/\a[19]?=some (.bool true)) ?_ ?_
  ·simp(maxSteps:=1000000)(disch:=omega)only[push_cast,hal,h2,h3,h4,h5,h6,h11,h16,h17,h18,hltc,↓WX,simprocAttr]
  clear hal h2 h3 h4 h5 h6 h11 h16 h17 h18 a
  rintro a T ⟨rfl,hal,h2,h3,h4,h5,h6,h16,h17,h18,h11,h19⟩
  refine wc_scut (λa V=>V=T/\a.length=52/\a[2]?=some (.sl 8 (l.map Wnt.enc) lx)/\a[3]?=some (.str s)/\a[4]?=some (.int .i64 sale)/\a[5]?=some (.loc S.length 0 0)/\a[6]?=some (.loc (S.length+1) 0 0)/\a[16]?=some (.sl 9 (t.fares.map Far.enc) t.fx)/\a[17]?=some (.int .i64 t.fares.length)/\a[18]?=some (.int .i64 i)/\a[11]?=some (e)) ?_ ?_
  ·simp(maxSteps:=1000000)(disch:=omega)only[push_cast,hal,h2,h3,h4,h5,h6,h11,h16,h17,h18,h19,↓WX]
  clear hal h2 h3 h4 h5 h6 h11 h16 h17 h18 h19 a
  rintro a V ⟨rfl,hal,h2,h3,h4,h5,h6,h16,h17,h18,h11⟩
  rw[wc_seq,wc_block]
  refine wc_scut (λa T=>T=V/\a.length=52/\a[2]?=some (.sl 8 (l.map Wnt.enc) lx)/\a[3]?=some (.str s)/\a[4]?=some (.int .i64 sale)/\a[5]?=some (.loc S.length 0 0)/\a[6]?=some (.loc (S.length+1) 0 0)/\a[16]?=some (.sl 9 (t.fares.map Far.enc) t.fx)/\a[17]?=some (.int .i64 t.fares.length)/\a[18]?=some (.int .i64 i)/\a[11]?=some (e)/\a[12]?=some (.int .i64 i)) ?_ ?_
  ·simp(maxSteps:=1000000)(disch:=omega)only[push_cast,hal,h2,h3,h4,h5,h6,h11,h16,h17,h18,↓WX,simprocAttr]
  clear hal h2 h3 h4 h5 h6 h11 h16 h17 h18 a
  rintro a T ⟨rfl,hal,h2,h3,h4,h5,h6,h16,h17,h18,h11,h12⟩
  by_cases c1:whyN p t i l s sale=0
  case neg=>
   rw[if_neg (λh=>c1 h.1),<-hfs]at hsu
   simp(maxSteps:=1000000)(disch:=omega)only[push_cast,not_false_eq_true,hal,h2,h3,h4,h5,h6,h11,h12,h16,h17,h18,gP,gT,cwy,c1,hlt,wrap_ok,Int.natCast_add,Int.natCast_one,↓WX,simprocAttr]
   exact⟨_,rfl,by rw[hsu];exact hg,he,hx⟩
  refine wc_scut (λa V=>V=T/\a.length=52/\a[2]?=some (.sl 8 (l.map Wnt.enc) lx)/\a[3]?=some (.str s)/\a[4]?=some (.int .i64 sale)/\a[5]?=some (.loc S.length 0 0)/\a[6]?=some (.loc (S.length+1) 0 0)/\a[16]?=some (.sl 9 (t.fares.map Far.enc) t.fx)/\a[17]?=some (.int .i64 t.fares.length)/\a[18]?=some (.int .i64 i)/\a[11]?=some (e)/\a[12]?=some (.int .i64 i)) ?_ ?_
  ·simp(maxSteps:=1000000)(disch:=omega)only[push_cast,not_true_eq_false,hal,h2,h3,h4,h5,h6,h11,h12,h16,h17,h18,gP,gT,cwy,c1,↓WX,simprocAttr]
  clear hal h2 h3 h4 h5 h6 h11 h12 h16 h17 h18 a
  rintro a V ⟨rfl,hal,h2,h3,h4,h5,h6,h16,h17,h18,h11,h12⟩
  generalize amtN p t i l s=am at*
  obtain⟨am,ae⟩:=am
  dsimp only at*
  refine wc_scut (λa T=>T=V/\a.length=52/\a[2]?=some (.sl 8 (l.map Wnt.enc) lx)/\a[3]?=some (.str s)/\a[4]?=some (.int .i64 sale)/\a[5]?=some (.loc S.length 0 0)/\a[6]?=some (.loc (S.length+1) 0 0)/\a[16]?=some (.sl 9 (t.fares.map Far.enc) t.fx)/\a[17]?=some (.int .i64 t.fares.length)/\a[18]?=some (.int .i64 i)/\a[11]?=some (e)/\a[12]?=some (.int .i64 i)/\a[13]?=some (.int .i64 am)/\a[14]?=some (.int .i64 ae)) ?_ ?_
  ·simp(maxSteps:=1000000)(disch:=omega)only[push_cast,hal,h2,h3,h4,h5,h6,h11,h12,h16,h17,h18,gP,gT,cam,↓WX,simprocAttr]
  clear hal h2 h3 h4 h5 h6 h11 h12 h16 h17 h18 a
  rintro a T ⟨rfl,hal,h2,h3,h4,h5,h6,h16,h17,h18,h11,h12,h13,h14⟩
  by_cases c2:ae=0
  case neg=>
   rw[if_neg (λh=>c2 h.2),<-hfs]at hsu
   simp(maxSteps:=1000000)(disch:=omega)only[push_cast,hal,h2,h3,h4,h5,h6,h11,h14,h16,h17,h18,c2,hlt,decide_false,wrap_ok,Int.natCast_add,Int.natCast_one,↓WX,simprocAttr]
   exact⟨_,rfl,by rw[hsu];exact hg,he,hx,gP,gT⟩
  rw[if_pos ⟨c1,c2⟩,<-hfs]at hsu
  obtain⟨S',a1,a2,a3,a4⟩:=ap hg (by omega) ⟨0,l.length,i,am⟩
  dsimp only at a1
  have gP':=a4 _ _ (λn hn=>by have:=he _ n hn;omega) gP
  have gT':=a4 _ _ (λn hn=>by have:=he _ n hn;omega) gT
  have hTl:=lt_of_some gT
  have hx':ExtS S S':=λk o ho=>a4 k o (λn hn=>by have:=he k n hn;have:=lt_of_some ho;omega) (hx k o ho)
  simp(maxSteps:=1000000)(disch:=omega)only[push_cast,hal,h2,h3,h4,h5,h6,h11,h12,h13,h14,h16,h17,h18,c2,hlt,a1,decide_true,wrap_ok,Int.natCast_add,Int.natCast_one,↓WX,simprocAttr]
  exact⟨_,rfl,by rw[hsu];first |exact a2 |simpa only[Yz]using a2,λk n h=>by obtain⟨rfl,-⟩:=D.os.inj h;omega,hx',gP',gT'⟩
 clear hal h2 h3 h4 h5 h6 h11 a
 clear gP gT hSV hVl U ap cwy cam
 rintro a V ⟨⟨e,h11,hg,he,hx,hVl⟩,hal⟩
 obtain⟨fs,hfs⟩:∃fs,fs=fasF p t l s sale t.fares.length:=⟨_,rfl⟩
 rw[<-hfs]at hg
 have hfl3:fs.length<=t.fares.length:=by rw[hfs];exact fasF_len
 rcases hg with ⟨rfl,hnil⟩ | ⟨k,rfl,hk⟩
 ·simp(maxSteps:=1000000)(disch:=omega)only[push_cast,hal,h11,cs0,Tryz.f50,↓WX,simprocAttr]
  exact⟨hx,hVl,[],by rw[<-hfs,hnil],.inl ⟨rfl,rfl⟩⟩
 ·obtain⟨r,T',l',c1,p1,k1,o1,l1⟩:=SortAm (n:=n) hk (λx hx=>by rw[hfs]at hx;have:=fasF_mem hx;omega) (by omega) (by omega)
  have hkS:=he k _ rfl
  have hpl:=p1.length_eq
  simp(maxSteps:=1000000)(disch:=omega)only[push_cast,hal,h11,c1,Tryz.f50,↓WX,simprocAttr]
  exact⟨λj o ho=>o1 j o (by have:=lt_of_some ho;omega) (hx j o ho),by omega,l',by rw[<-hfs];exact p1,.inr ⟨k,by rw[hpl],by omega,k1⟩⟩
end
noncomputable def wyW (p:Plc) (t:Trf) (w:List Wnt) (s:ByteArray) (sale:Int) (i k:Nat) (f:Int):Int:=whyN p t f ((w.drop i).take (k-i)) s sale
noncomputable def amW (p:Plc) (t:Trf) (w:List Wnt) (s:ByteArray) (i k:Nat) (f:Int):Int×Int:=amtN p t f ((w.drop i).take (k-i)) s
theorem fas_fars {p:Plc} {t:Trf} {w:List Wnt} {s:ByteArray} {sale:Int} {i k:Nat} (nf:Nat):fasF p t ((w.drop i).take (k-i)) s sale nf=(farsF (wyW p t w s sale) (amW p t w s) nf i k).map λf=>(⟨0,((w.drop i).take (k-i)).length,f.1,f.2⟩:Prt):=by
 unfold fasF farsF wyW amW
 rw[List.map_filterMap]
 congr 1
 funext f
 split <;> rfl
theorem fas_ord {p:Plc} {t:Trf} {l:List Wnt} {s:ByteArray} {sale:Int} {nf:Nat}:(fasF p t l s sale nf).Pairwise λx y=>x.fa<y.fa:=by
 unfold fasF
 rw[List.pairwise_filterMap]
 refine List.pairwise_lt_range.imp ?_
 intro a b hab x hx y hy
 split at hx
 ·obtain rfl:=Yi hx
  split at hy
  ·obtain rfl:=Yi hy
   show (a:Int)<b
   omega
  ·cases hy
 ·cases hx
theorem sort_one:∀ {l l':List Prt},l'.Perm l->l'.Pairwise (λx y=>x.fa<=y.fa)->l.Pairwise (λx y=>x.fa<y.fa)->l'=l
 | [],l',h,_,_=>h.eq_nil
 |x::xs,[],h,_,_=>by have:=h.length_eq;cases this
 |x::xs,y::ys,h,h1,h2=>by
  obtain⟨a1,a2⟩:=List.pairwise_cons.1 h1
  obtain⟨b1,b2⟩:=List.pairwise_cons.1 h2
  have hxy:y=x:=by
   rcases List.mem_cons.1 (h.mem_iff.1 (Yx ..)) with e |hy
   ·exact e
   ·have:=b1 y hy
    rcases List.mem_cons.1 (h.mem_iff.2 (Yx ..)) with e |hx
    ·exact e.symm
    ·have:=a1 x hx
     omega
  subst hxy
  rw[sort_one (h.cons_inv) a2 b2]
def optJ (W:Nat->Nat->Int->Int) (A:Nat->Nat->Int->Int×Int) (nf i m:Nat):List Prt:=
 (List.range' (i+1) m).flatMap λ(k:Nat)=>(farsF W A nf i k).map λf=>(⟨(i:Int),(k:Int),f.1,f.2⟩:Prt)
theorem optJ_all {W:Nat->Nat->Int->Int} {A:Nat->Nat->Int->Int×Int} {nf i n:Nat}:optJ W A nf i (n-i)=optF W A nf n i:=rfl
theorem optJ_succ {W:Nat->Nat->Int->Int} {A:Nat->Nat->Int->Int×Int} {nf i m:Nat}:optJ W A nf i (m+1)=optJ W A nf i m++(farsF W A nf i (i+1+m)).map λf=>(⟨(i:Int),((i+1+m:Nat):Int),f.1,f.2⟩:Prt):=by
 unfold optJ
 rw[List.range'_1_concat,List.flatMap_append,List.flatMap_cons,List.flatMap_nil,Za]
theorem lst_fuel {opts:Nat->List Prt} {n:Nat} (hto:∀i,∀x∈opts i,(i:Int)<x.to/\x.to<=n):∀(k i:Nat),i<=n->n<=i+k->lstF opts n k i=lstF opts n (n-i) i
 |0,i,h1,h2=>by
  obtain rfl:i=n:=by omega
  rw[Nat.sub_self]
 |k+1,i,h1,h2=>by
  by_cases e:i=n
  ·subst e
   rw[Nat.sub_self,lstF,lstF,if_pos rfl,if_pos rfl]
  ·obtain⟨m,hm⟩:∃m,n-i=m+1:=⟨n-i-1,by omega⟩
   rw[hm,lstF,lstF,if_neg e,if_neg e]
   have key:∀(l:List Prt),(∀x∈l,(i:Int)<x.to/\x.to<=n)->∀o,l.foldl (lstS (lstF opts n k)) o=l.foldl (lstS (lstF opts n m)) o:=by
    intro l
    induction l with
    |nil=>intro _ o;rfl
    |cons x xs ih=>
     intro hl o
     obtain⟨x1,x2⟩:=hl x (Yx ..)
     have e1:=lst_fuel hto k x.to.toNat (by omega) (by omega)
     have e2:=lst_fuel hto m x.to.toNat (by omega) (by omega)
     rw[List.foldl_cons,List.foldl_cons,ih (λy hy=>hl y (Yv _ hy))]
     congr 1
     unfold lstS
     rw[e1,e2]
   exact key _ (hto i) none
termination_by k=>k
decreasing_by all_goals omega
theorem least_step {opts:Nat->List Prt} {n:Nat} (hto:∀i,∀x∈opts i,(i:Int)<x.to/\x.to<=n) {i:Nat} (h:i<n):lstF opts n (n-i) i=(opts i).foldl (lstS λj=>lstF opts n (n-j) j) none:=by
 obtain⟨m,hm⟩:∃m,n-i=m+1:=⟨n-i-1,by omega⟩
 rw[hm,lstF,if_neg (by omega)]
 have key:∀(l:List Prt),(∀x∈l,(i:Int)<x.to/\x.to<=n)->∀o,l.foldl (lstS (lstF opts n m)) o=l.foldl (lstS λj=>lstF opts n (n-j) j) o:=by
  intro l
  induction l with
  |nil=>intro _ o;rfl
  |cons x xs ih=>
   intro hl o
   obtain⟨x1,x2⟩:=hl x (Yx ..)
   rw[List.foldl_cons,List.foldl_cons,ih (λy hy=>hl y (Yv _ hy))]
   congr 1
   unfold lstS
   rw[lst_fuel hto m x.to.toNat (by omega) (by omega)]
 exact key _ (hto i) none
theorem farsF_len {W:Nat->Nat->Int->Int} {A:Nat->Nat->Int->Int×Int} {nf i k:Nat}:(farsF W A nf i k).length<=nf:=by
 unfold farsF
 refine Zu (List.length_filterMap_le _ _) ?_
 rw[List.length_range]
 exact Yt _
theorem optJ_len {W:Nat->Nat->Int->Int} {A:Nat->Nat->Int->Int×Int} {nf i:Nat}:∀m,(optJ W A nf i m).length<=m*nf
 |0=>Xb _
 |m+1=>by
  have h1:=optJ_len (W:=W) (A:=A) (nf:=nf) (i:=i) m
  have h2:=farsF_len (W:=W) (A:=A) (nf:=nf) (i:=i) (k:=i+1+m)
  rw[optJ_succ,Yd,Yz,Nat.succ_mul]
  omega
theorem fasF_am {p:Plc} {t:Trf} (ht:TrG t) {l:List Wnt} {s:ByteArray} {sale:Int} {i:Nat} {x:Prt} (h:x∈fasF p t l s sale i):0<=x.am/\x.am<=1099511627776:=by
 obtain⟨f,hf,e⟩:=List.mem_filterMap.1 h
 split at e
 ·obtain rfl:=Yi e
  exact amtN_in ht _ _ _
 ·cases e
theorem optJ_am {W:Nat->Nat->Int->Int} {p:Plc} {t:Trf} (ht:TrG t) {w:List Wnt} {s:ByteArray} {nf i m:Nat} {x:Prt} (h:x∈optJ W (amW p t w s) nf i m):0<=x.am/\x.am<=1099511627776:=by
 obtain⟨k,-,h⟩:=List.mem_flatMap.1 h
 obtain⟨f,hf,rfl⟩:=Zy.1 h
 obtain⟨-,-,-,h4⟩:=farsF_mem hf
 have h5:f.2=(amtN p t f.1 ((w.drop i).take (k-i)) s).1:=(congrArg Prod.fst h4).symm
 show 0<=f.2/\f.2<=1099511627776
 rw[h5]
 exact amtN_in ht _ _ _
theorem lst_in {W:Nat->Nat->Int->Int} {p:Plc} {t:Trf} (ht:TrG t) {w:List Wnt} {s:ByteArray} {nf n m i:Nat} {r:Int} (h:lstF (optF W (amW p t w s) nf n) n m i=some r):0<=r/\r<=m*1099511627776:=
 lstF_bound (λi x hx=>by rw[<-optJ_all]at hx;exact optJ_am ht hx) m i r h
end Go.Proofs.YtaklebjoenophaaGreat.Dm
