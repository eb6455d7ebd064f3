/-
  The program's rules and routings of a tariff, its fares, local times and countries: exactly.
  The program's rules: what combines, stays; components with fares: exactly.
  The program's stays, local times and cities of a way: exactly.
-/
import Derived.Test.YtaklebjoenophaaGreatZg
set_option maxHeartbeats 64000000
set_option maxRecDepth 100000
set_option linter.unusedSimpArgs false
set_option linter.unusedVariables false
namespace Go.Proofs.YtaklebjoenophaaGreat.Dm
open Go Gw
section
variable {n : Nat}
theorem PRule_x (fe oe te:List (List D)) (fx ox tx:Bool) (l:List Rul) (lx:Bool) (hf:pureLL fe=true) (hr:pureLL oe=true) (ht:pureLL te=true) (hl:l.length<=1048576) (hn:1048580<=n) (k:Int):∀st S,callD E (dcall E n) st S 62 [.agg [.sl 9 fe fx,.sl 15 (l.map Rul.enc) lx,.sl 3 oe ox,.sl 7 te tx],.int .i64 k]=some (.tup [rulD (l.find? λr=>decide (r.num=k)),.bool (l.find? λr=>decide (r.num=k)).isSome],S):=by
 obtain⟨m,rfl⟩:∃m,n=m+1:=⟨n-1,by omega⟩
 have:WO (dcall E (m+1) 62 [.agg [.sl 9 fe fx,.sl 15 (l.map Rul.enc) lx,.sl 3 oe ox,.sl 7 te tx],.int .i64 k] []) λr T=>r=.tup [rulD (l.find? λr=>decide (r.num=k)),.bool (l.find? λr=>decide (r.num=k)).isSome]:=by
  refine wo_dcall Tryz.func62 rfl (by decide) rfl 22 rfl (λa hal ha=>?_)
  have h0:a[0]?=some _:=ha 0 (by simp)
  have h1:a[1]?=some _:=ha 1 (by simp)
  clear ha
  obtain⟨q,hq⟩:∃q,q=l.find? λr=>decide (r.num=k):=⟨_,rfl⟩
  rw[<-hq]
  refine wc_scut (λa V=>(∃V0:List Ob,V=V0/\V0[0]?=some (Ob.row 4 [[.sl 9 fe fx,.sl 15 (l.map Rul.enc) lx,.sl 3 oe ox,.sl 7 te tx]])/\V0[1]?=some (Ob.row 15 [[.int .i64 0,.int .i64 0,.nils,.int .i64 0,.int .i64 0,.int .i64 0,.int .i64 0,.int .i64 0,.nils,.nils,.int .i64 0,.int .i64 0,.int .i64 0,.int .i64 0,.nils]]))/\a.length=22/\a[1]?=some (.int .i64 k)/\a[2]?=some (.loc 0 0 0)/\a[4]?=some (.loc 1 0 0)) ?_ ?_
  ·simp only[push_cast,hal,h0,h1,↓WX,simprocAttr]
   exact⟨_,rfl,rfl,rfl⟩
  rintro a V ⟨⟨V0,rfl,g0,g1⟩,hal,h1,h2,h4⟩
  refine wc_rcut (λa T=>(q=none/\∃J,T=V++J)/\a.length=22/\a[4]?=some (.loc 1 0 0)) ?_ ?_
  ·simp only[push_cast,hal,h2,g0,↓WX,simprocAttr]
   refine wl_loop (λi a T=>((∃J,T=V++J)/\q=(l.drop i).find? λr=>decide (r.num=k))/\a.length=22/\a[1]?=some (.int .i64 k)/\a[4]?=some (.loc 1 0 0)/\a[9]?=some (.sl 15 (l.map Rul.enc) lx)/\a[10]?=some (.int .i64 l.length)/\a[11]?=some (.int .i64 i)) l.length ?_ (by omega) ?_
   ·simp only[push_cast,hal,h1,h4,simprocAttr,WY]
    exact⟨⟨[],(Za _).symm⟩,hq⟩
   clear hq
   rintro i a T hi ⟨⟨⟨J,rfl⟩,e⟩,hal,h1,h4,h9,h10,h11⟩
   have g1':(V++J)[1]?=some (Ob.row 15 [[.int .i64 0,.int .i64 0,.nils,.int .i64 0,.int .i64 0,.int .i64 0,.int .i64 0,.int .i64 0,.nils,.nils,.int .i64 0,.int .i64 0,.int .i64 0,.int .i64 0,.nils]]):=get_old g1
   rcases Yf hi with hlt |hie
   case inr=>
    rw[hie,Zt,List.find?_nil]at e
    subst e
    subst hie
    simp only[push_cast,hal,h4,h10,h11,↓WX,simprocAttr,WY]
    exact⟨_,rfl⟩
   obtain⟨x,hx⟩:∃x,l[i]?=some x:=⟨l[i],by simp⟩
   have hltc:(i:Int)<l.length:=by omega
   obtain⟨w,hw⟩:∃w,x.when=w:=⟨_,rfl⟩
   have hxe:Rul.enc x=.int .i64 x.num::(w.enc++[.sl 1 (x.comb.map encZ) x.combx,.int .i64 x.mins,.int .i64 x.maxs,.int .i64 x.chg,.int .i64 x.ref,.sl 2 (x.pcs.map encPc) x.pcx]):=by rw[<-hw];rfl
   cases w with |mk k' l' lx' u' v' pf' pt' pd' t' tx'=>?_
   simp only[Cnd.enc,Ze,Zz]at hxe
   rw[drop_at hx,List.find?_cons]at e
   refine wc_scut (λa W=>W=V++J/\a.length=22/\a[1]?=some (.int .i64 k)/\a[4]?=some (.loc 1 0 0)/\a[9]?=some (.sl 15 (l.map Rul.enc) lx)/\a[10]?=some (.int .i64 l.length)/\a[11]?=some (.int .i64 i)/\a[12]?=some (.bool true)) ?_ ?_
   ·simp only[push_cast,hal,h1,h4,h9,h10,h11,hltc,↓WX,simprocAttr]
   rintro a W ⟨rfl,hal,h1,h4,h9,h10,h11,h12⟩
   refine wc_scut (λa W=>W=V++J/\a.length=22/\a[1]?=some (.int .i64 k)/\a[4]?=some (.loc 1 0 0)/\a[9]?=some (.sl 15 (l.map Rul.enc) lx)/\a[10]?=some (.int .i64 l.length)/\a[11]?=some (.int .i64 i)) ?_ ?_
   ·simp only[push_cast,hal,h1,h4,h9,h10,h11,h12,↓WX]
   rintro a W ⟨rfl,hal,h1,h4,h9,h10,h11⟩
   rw[wc_seq,wc_block]
   refine wc_scut (λa W=>W=(V++J)++[Ob.row 15 [x.enc]]/\a.length=22/\a[1]?=some (.int .i64 k)/\a[4]?=some (.loc 1 0 0)/\a[7]?=some (.loc (V++J).length 0 0)/\a[9]?=some (.sl 15 (l.map Rul.enc) lx)/\a[10]?=some (.int .i64 l.length)/\a[11]?=some (.int .i64 i)) ?_ ?_
   ·simp only[push_cast,hal,h1,h4,h9,h10,h11,hx,hxe,get_end,set_end,↓WX,simprocAttr]
   rintro a W ⟨hW,hal,h1,h4,h7,h9,h10,h11⟩
   have gx:W[(V++J).length]?=some (Ob.row 15 [x.enc]):=by rw[hW];exact get_end
   have gz:=get_old (J:=[Ob.row 15 [x.enc]]) g1'
   rw[<-hW]at gz
   have hWl:1<W.length:=(Ya.1 gz).1
   have hne:((V++J).length=1)=False:=eq_false (λh=>by have:=(Ya.1 g1').1;omega)
   have hWJ:∃J,W=V++J:=⟨J++[Ob.row 15 [x.enc]],by rw[hW,Zp]⟩
   generalize (V++J).length=kx at*
   clear hW g1'
   rw[hxe]at gx
   by_cases c:x.num=k
   ·have d1:decide (x.num=k)=true:=Yn c
    rw[d1]at e
    subst e
    simp only[push_cast,hal,h1,h4,h7,gx,gz,hWl,d1,hxe,rulD,Option.isSome_some,Tryz.f62,↓WX,simprocAttr,WY]
   ·have d1:decide (x.num=k)=false:=Ym c
    rw[d1]at e
    simp(maxSteps:=1000000)(disch:=omega)only[push_cast,hal,h1,h4,h7,h9,h10,h11,gx,hlt,d1,wrap_ok,Int.natCast_add,Int.natCast_one,↓WX,simprocAttr]
    exact⟨hWJ,e⟩
  rintro a T ⟨⟨rfl,J,rfl⟩,hal,h4⟩
  have g1':(V++J)[1]?=some (Ob.row 15 [[.int .i64 0,.int .i64 0,.nils,.int .i64 0,.int .i64 0,.int .i64 0,.int .i64 0,.int .i64 0,.nils,.nils,.int .i64 0,.int .i64 0,.int .i64 0,.int .i64 0,.nils]]):=get_old g1
  have hWl:1<(V++J).length:=(Ya.1 g1').1
  generalize V++J=W at*
  simp only[push_cast,hal,h4,g1',hWl,rulD,Option.isSome_none,Tryz.f62,↓WX,simprocAttr]
 obtain⟨_,T,ho,rfl⟩:=this
 exact λst S=>callD_pure rfl (by simp only[pureL_cons,pureL_nil,D.pure,hf,hr,ht,Ruls_pure,Bool.and_self]) ho (freeze_pure (by simp only[D.pure,pureL_cons,pureL_nil,rulD_pure,Yj]))
theorem PRouting_x (fe re te:List (List D)) (fx rx tx:Bool) (l:List Rou) (lx:Bool) (hf:pureLL fe=true) (hr:pureLL re=true) (ht:pureLL te=true) (hl:l.length<=1048576) (hn:1048580<=n) (k:Int):∀st S,callD E (dcall E n) st S 66 [.agg [.sl 9 fe fx,.sl 15 re rx,.sl 3 (l.map Rou.enc) lx,.sl 7 te tx],.int .i64 k]=some (.tup [rouD (l.find? λr=>decide (r.num=k)),.bool (l.find? λr=>decide (r.num=k)).isSome],S):=by
 obtain⟨m,rfl⟩:∃m,n=m+1:=⟨n-1,by omega⟩
 have:WO (dcall E (m+1) 66 [.agg [.sl 9 fe fx,.sl 15 re rx,.sl 3 (l.map Rou.enc) lx,.sl 7 te tx],.int .i64 k] []) λr T=>r=.tup [rouD (l.find? λr=>decide (r.num=k)),.bool (l.find? λr=>decide (r.num=k)).isSome]:=by
  refine wo_dcall Tryz.func66 rfl (by decide) rfl 22 rfl (λa hal ha=>?_)
  have h0:a[0]?=some _:=ha 0 (by simp)
  have h1:a[1]?=some _:=ha 1 (by simp)
  clear ha
  obtain⟨q,hq⟩:∃q,q=l.find? λr=>decide (r.num=k):=⟨_,rfl⟩
  rw[<-hq]
  refine wc_scut (λa V=>(∃V0:List Ob,V=V0/\V0[0]?=some (Ob.row 4 [[.sl 9 fe fx,.sl 15 re rx,.sl 3 (l.map Rou.enc) lx,.sl 7 te tx]])/\V0[1]?=some (Ob.row 3 [[.int .i64 0,.nils,.int .i64 0]]))/\a.length=22/\a[1]?=some (.int .i64 k)/\a[2]?=some (.loc 0 0 0)/\a[4]?=some (.loc 1 0 0)) ?_ ?_
  ·simp only[push_cast,hal,h0,h1,↓WX,simprocAttr]
   exact⟨_,rfl,rfl,rfl⟩
  rintro a V ⟨⟨V0,rfl,g0,g1⟩,hal,h1,h2,h4⟩
  refine wc_rcut (λa T=>(q=none/\∃J,T=V++J)/\a.length=22/\a[4]?=some (.loc 1 0 0)) ?_ ?_
  ·simp only[push_cast,hal,h2,g0,↓WX,simprocAttr]
   refine wl_loop (λi a T=>((∃J,T=V++J)/\q=(l.drop i).find? λr=>decide (r.num=k))/\a.length=22/\a[1]?=some (.int .i64 k)/\a[4]?=some (.loc 1 0 0)/\a[9]?=some (.sl 3 (l.map Rou.enc) lx)/\a[10]?=some (.int .i64 l.length)/\a[11]?=some (.int .i64 i)) l.length ?_ (by omega) ?_
   ·simp only[push_cast,hal,h1,h4,simprocAttr,WY]
    exact⟨⟨[],(Za _).symm⟩,hq⟩
   clear hq
   rintro i a T hi ⟨⟨⟨J,rfl⟩,e⟩,hal,h1,h4,h9,h10,h11⟩
   have g1':(V++J)[1]?=some (Ob.row 3 [[.int .i64 0,.nils,.int .i64 0]]):=get_old g1
   rcases Yf hi with hlt |hie
   case inr=>
    rw[hie,Zt,List.find?_nil]at e
    subst e
    subst hie
    simp only[push_cast,hal,h4,h10,h11,↓WX,simprocAttr,WY]
    exact⟨_,rfl⟩
   obtain⟨x,hx⟩:∃x,l[i]?=some x:=⟨l[i],by simp⟩
   have hltc:(i:Int)<l.length:=by omega
   have hxe:Rou.enc x=[.int .i64 x.num,.sl 2 (x.links.map encLk) x.linksx,.int .i64 x.miles]:=rfl
   rw[drop_at hx,List.find?_cons]at e
   refine wc_scut (λa W=>W=V++J/\a.length=22/\a[1]?=some (.int .i64 k)/\a[4]?=some (.loc 1 0 0)/\a[9]?=some (.sl 3 (l.map Rou.enc) lx)/\a[10]?=some (.int .i64 l.length)/\a[11]?=some (.int .i64 i)/\a[12]?=some (.bool true)) ?_ ?_
   ·simp only[push_cast,hal,h1,h4,h9,h10,h11,hltc,↓WX,simprocAttr]
   rintro a W ⟨rfl,hal,h1,h4,h9,h10,h11,h12⟩
   refine wc_scut (λa W=>W=V++J/\a.length=22/\a[1]?=some (.int .i64 k)/\a[4]?=some (.loc 1 0 0)/\a[9]?=some (.sl 3 (l.map Rou.enc) lx)/\a[10]?=some (.int .i64 l.length)/\a[11]?=some (.int .i64 i)) ?_ ?_
   ·simp only[push_cast,hal,h1,h4,h9,h10,h11,h12,↓WX]
   rintro a W ⟨rfl,hal,h1,h4,h9,h10,h11⟩
   rw[wc_seq,wc_block]
   refine wc_scut (λa W=>W=(V++J)++[Ob.row 3 [x.enc]]/\a.length=22/\a[1]?=some (.int .i64 k)/\a[4]?=some (.loc 1 0 0)/\a[7]?=some (.loc (V++J).length 0 0)/\a[9]?=some (.sl 3 (l.map Rou.enc) lx)/\a[10]?=some (.int .i64 l.length)/\a[11]?=some (.int .i64 i)) ?_ ?_
   ·simp only[push_cast,hal,h1,h4,h9,h10,h11,hx,hxe,get_end,set_end,↓WX,simprocAttr]
   rintro a W ⟨hW,hal,h1,h4,h7,h9,h10,h11⟩
   have gx:W[(V++J).length]?=some (Ob.row 3 [x.enc]):=by rw[hW];exact get_end
   have gz:=get_old (J:=[Ob.row 3 [x.enc]]) g1'
   rw[<-hW]at gz
   have hWl:1<W.length:=(Ya.1 gz).1
   have hne:((V++J).length=1)=False:=eq_false (λh=>by have:=(Ya.1 g1').1;omega)
   have hWJ:∃J,W=V++J:=⟨J++[Ob.row 3 [x.enc]],by rw[hW,Zp]⟩
   generalize (V++J).length=kx at*
   clear hW g1'
   rw[hxe]at gx
   by_cases c:x.num=k
   ·have d1:decide (x.num=k)=true:=Yn c
    rw[d1]at e
    subst e
    simp only[push_cast,hal,h1,h4,h7,gx,gz,hWl,d1,hxe,rouD,Option.isSome_some,Tryz.f66,↓WX,simprocAttr,WY]
   ·have d1:decide (x.num=k)=false:=Ym c
    rw[d1]at e
    simp(maxSteps:=1000000)(disch:=omega)only[push_cast,hal,h1,h4,h7,h9,h10,h11,gx,hlt,d1,wrap_ok,Int.natCast_add,Int.natCast_one,↓WX,simprocAttr]
    exact⟨hWJ,e⟩
  rintro a T ⟨⟨rfl,J,rfl⟩,hal,h4⟩
  have g1':(V++J)[1]?=some (Ob.row 3 [[.int .i64 0,.nils,.int .i64 0]]):=get_old g1
  have hWl:1<(V++J).length:=(Ya.1 g1').1
  generalize V++J=W at*
  simp only[push_cast,hal,h4,g1',hWl,rouD,Option.isSome_none,Tryz.f66,↓WX,simprocAttr]
 obtain⟨_,T,ho,rfl⟩:=this
 exact λst S=>callD_pure rfl (by simp only[pureL_cons,pureL_nil,D.pure,hf,hr,ht,Rous_pure,Bool.and_self]) ho (freeze_pure (by simp only[D.pure,pureL_cons,pureL_nil,rouD_pure,Yj]))
theorem PCty_c {p:Plc} {s:ByteArray} (hn:p.aps.length+2<n) (hz:p.aps.length<=9223372036854775800) (st:Bool) (S:List Ob):callD E (dcall E n) st S 184 [.agg p.enc,.str s]=some (.str (ctyS p s),S):=by
 obtain⟨m,rfl⟩:∃m,n=m+1:=⟨n-1,by omega⟩
 have c1:=PFind_c (n:=m) (p:=p) (s:=s) (by omega) hz
 have c2:=town_c (n:=m) (p:=p) (s:=s) (by omega) hz
 have:WO (dcall E (m+1) 184 [.agg p.enc,.str s] []) λd _=>d=.str (ctyS p s):=by
  refine wo_dcall Tryz.func184 rfl (by decide) rfl 26 rfl (λa hal ha=>?_)
  have h0:a[0]?=some _:=ha 0 (by simp)
  have h1:a[1]?=some _:=ha 1 (by simp)
  clear ha
  unfold ctyS
  simp only[Plc.enc]at h0 c1 c2
  rcases ha:(p.aps.find? λa=>a.code.toList == s.toList) with _ |a1
  ·rw[ha]at c1 ⊢
   simp only[foundD,zeroApt]at c1
   rcases hb:(p.aps.find? λa=>a.city.toList == s.toList) with _ |a2
   ·rw[hb]at c2 ⊢
    simp only[foundD,zeroApt]at c2
    simp only[push_cast,hal,h0,h1,c1,c2,Tryz.f184,↓WX,simprocAttr]
   ·rw[hb]at c2 ⊢
    simp only[foundD,Apt.enc]at c2
    simp only[push_cast,hal,h0,h1,c1,c2,Tryz.f184,↓WX,simprocAttr]
  ·rw[ha]at c1 ⊢
   simp only[foundD,Apt.enc]at c1
   simp only[push_cast,hal,h0,h1,c1,Tryz.f184,↓WX,simprocAttr]
 obtain⟨d,T,ho,rfl⟩:=this
 exact callD_pure rfl (by simp[pureL_cons,pureL_nil,D.pure,Plc_pure]) ho rfl
theorem Psplit_x (hn:1<=n) (x:Int):∀st S,callD E (dcall E n) st S 121 [.int .i64 x]=some (.tup [.int .i64 (dayF x),.int .i64 (mntF x)],S):=by
 obtain⟨m,rfl⟩:∃m,n=m+1:=⟨n-1,by omega⟩
 have:WO (dcall E (m+1) 121 [.int .i64 x] []) λr T=>r=.tup [.int .i64 (dayF x),.int .i64 (mntF x)]:=by
  unfold dayF mntF
  refine wo_dcall Tryz.func121 rfl (by decide) rfl 18 rfl (λa hal ha=>?_)
  have h0:a[0]?=some _:=ha 0 (by simp)
  clear ha
  by_cases c1:x.tmod 1440<0
  ·simp only[push_cast,hal,h0,c1,Tryz.f121,↓WX,simprocAttr]
  ·simp only[push_cast,hal,h0,c1,Tryz.f121,↓WX,simprocAttr]
 obtain⟨_,T,ho,rfl⟩:=this
 exact λst S=>callD_pure rfl rfl ho rfl
theorem Pfare_x (t:Trf) (k:Int) (l:List Wnt) (lx:Bool) (hn:1<=n):∀st S,callD E (dcall E n) st S 57 [.agg t.enc,.int .i64 k,.sl 8 (l.map Wnt.enc) lx]=some (.tup [.agg (if l.length=0∨k<0∨(t.fares.length:Int)<=k then zeFar.enc else ((t.fares[k.toNat]?).getD zeFar).enc),.bool (!decide (l.length=0∨k<0∨(t.fares.length:Int)<=k))],S):=by
 obtain⟨m,rfl⟩:∃m,n=m+1:=⟨n-1,by omega⟩
 have hp:pureL [.agg t.enc,.int .i64 k,.sl 8 (l.map Wnt.enc) lx]=true:=by simp only[pureL_cons,pureL_nil,D.pure,Trf_pure,Wnts_pure,Yj]
 obtain⟨f,hf⟩:∃f,f=(t.fares[k.toNat]?).getD zeFar:=⟨_,rfl⟩
 rw[<-hf]
 simp only[Trf.enc]at hp ⊢
 have:WO (dcall E (m+1) 57 [.agg [.sl 9 (t.fares.map Far.enc) t.fx,.sl 15 (t.rules.map Rul.enc) t.rx,.sl 3 (t.rous.map Rou.enc) t.ox,.sl 7 (t.taxes.map Tx.enc) t.tx],.int .i64 k,.sl 8 (l.map Wnt.enc) lx] []) λr T=>r=.tup [.agg (if l.length=0∨k<0∨(t.fares.length:Int)<=k then zeFar.enc else f.enc),.bool (!decide (l.length=0∨k<0∨(t.fares.length:Int)<=k))]:=by
  refine wo_dcall Tryz.func57 rfl (by decide) rfl 28 rfl (λa hal ha=>?_)
  have h0:a[0]?=some _:=ha 0 (by simp)
  have h1:a[1]?=some _:=ha 1 (by simp)
  have h2:a[2]?=some _:=ha 2 (by simp)
  clear ha
  by_cases c1:l.length=0
  ·have d1:decide ((l.length:Int)=0)=true:=Yn (by omega)
   rw[if_pos (.inl c1),Yn (.inl c1)]
   simp only[push_cast,hal,h0,h2,d1,zeFar,Far.enc,Tryz.f57,↓WX,simprocAttr,WY]
  have d1:decide ((l.length:Int)=0)=false:=Ym (by omega)
  by_cases c2:k<0
  ·rw[if_pos (.inr (.inl c2)),Yn (.inr (.inl c2))]
   simp only[push_cast,hal,h0,h1,h2,d1,c2,zeFar,Far.enc,Tryz.f57,↓WX,simprocAttr,WY]
  by_cases c3:(t.fares.length:Int)<=k
  ·rw[if_pos (.inr (.inr c3)),Yn (.inr (.inr c3))]
   simp only[push_cast,hal,h0,h1,h2,d1,c2,c3,zeFar,Far.enc,Tryz.f57,↓WX,simprocAttr,WY]
  have hno:¬(l.length=0∨k<0∨(t.fares.length:Int)<=k):=λh=>h.elim c1 (λh=>h.elim c2 c3)
  rw[if_neg hno,Ym hno]
  have hge:(0<=k)=True:=eq_true (by omega)
  have hxl:k.toNat<t.fares.length:=by omega
  rw[Yq hxl,Option.getD_some]at hf
  have hfx:t.fares[k.toNat]?=some f:=by rw[Yq hxl,hf]
  simp only[push_cast,hal,h0,h1,h2,d1,c2,c3,hge,hfx,Far.enc,Tryz.f57,↓WX,simprocAttr,WY]
 obtain⟨_,T,ho,rfl⟩:=this
 exact λst S=>callD_pure rfl hp ho (freeze_pure (by simp only[D.pure,pureL_cons,pureL_nil,Yj];split <;> exact Far_pure _))
end
section
variable {n : Nat}
theorem PIndexI_x {d:D} {l:List Int} (h:FLs 1 encZ d l) (hl:l.length<=1048576) (v:Int) (hn:1048590<=n):∃r:Int,(decide (0<=r)=l.any λx=>decide (x=v))/\∀st S,callD E (dcall E n) st S 219 [d,.int .i64 v]=some (.int .i64 r,S):=by
 obtain⟨m,rfl⟩:∃m,n=m+1:=⟨n-1,by omega⟩
 have hp:=fls_pure h (encZs_pure' l)
 have hy:=λS=>fls_len (S:=S) Tryz.underlying70 h
 simp only[push_cast]at hy
 have:WO (dcall E (m+1) 219 [d,.int .i64 v] []) λr T=>∃k:Int,r=.int .i64 k/\decide (0<=k)=l.any λx=>decide (x=v):=by
  obtain⟨q,hq⟩:∃q,q=l.any λx=>decide (x=v):=⟨_,rfl⟩
  rw[<-hq]
  refine wo_dcall Tryz.func219 rfl (by decide) rfl 19 rfl (λa hal ha=>?_)
  have h0:a[0]?=some _:=ha 0 (by simp)
  have h1:a[1]?=some _:=ha 1 (by simp)
  clear ha
  simp only[push_cast,hal,h0,hy,↓WX,simprocAttr]
  refine wl_loop (λi a T=>(T=[]/\q=(l.drop i).any λx=>decide (x=v))/\a.length=19/\a[0]?=some (d)/\a[1]?=some (.int .i64 v)/\a[7]?=some (.int .i64 l.length)/\a[8]?=some (.int .i64 i)) l.length ?_ (by omega) ?_
  ·simp only[push_cast,hal,h0,h1,simprocAttr,WY]
   exact hq
  rintro i a T hi ⟨⟨rfl,e⟩,hal,h0,h1,h7,h8⟩
  rcases Yf hi with hlt |rfl
  case inr=>
   rw[Zt,List.any_nil]at e
   subst e
   simp only[push_cast,decide_eq_false_iff_not,hal,h7,h8,Tryz.f219,↓WX,simprocAttr,WY]
   exact⟨_,rfl,by simp⟩
  have hltc:(i:Int)<l.length:=by omega
  obtain⟨x,hx⟩:∃x,l[i]?=some x:=⟨l[i],by simp⟩
  rw[drop_at hx,List.any_cons]at e
  rcases h with ⟨-,rfl⟩ | ⟨lx,rfl⟩
  ·cases hx
  by_cases c:v=x
  ·have e1:decide (x=v)=true:=Yn c.symm
   have e2:decide (v=x)=true:=Yn c
   rw[e1,Bool.true_or]at e
   subst e
   simp only[push_cast,Yy,hal,h0,h1,h7,h8,hltc,hx,e2,encZ,Tryz.f219,↓WX,simprocAttr]
   exact⟨_,rfl,by simp⟩
  ·have e1:decide (x=v)=false:=Ym λh=>c h.symm
   have e2:decide (v=x)=false:=Ym c
   rw[e1,Bool.false_or]at e
   simp(maxSteps:=1000000)(disch:=omega)only[push_cast,hal,h0,h1,h7,h8,hltc,hlt,hx,e2,encZ,wrap_ok,Int.natCast_add,Int.natCast_one,↓WX,simprocAttr]
   exact e
 obtain⟨_,T,ho,k,rfl,hk⟩:=this
 exact⟨k,hk,λst S=>callD_pure rfl (by simp only[pureL_cons,pureL_nil,hp,D.pure,Yj]) ho rfl⟩
theorem PContI_x {d:D} {l:List Int} (h:FLs 1 encZ d l) (hl:l.length<=1048576) (v:Int) (hn:1048600<=n):∀st S,callD E (dcall E n) st S 183 [d,.int .i64 v]=some (.bool (l.any λx=>decide (x=v)),S):=by
 obtain⟨m,rfl⟩:∃m,n=m+1:=⟨n-1,by omega⟩
 have hp:=fls_pure h (encZs_pure' l)
 obtain⟨r,hr,cr⟩:=PIndexI_x (n:=m) h hl v (by omega)
 rw[<-hr]
 have:WO (dcall E (m+1) 183 [d,.int .i64 v] []) λq T=>q=.bool (decide (0<=r)):=by
  refine wo_dcall Tryz.func183 rfl (by decide) rfl 9 rfl (λa hal ha=>?_)
  have h0:a[0]?=some _:=ha 0 (by simp)
  have h1:a[1]?=some _:=ha 1 (by simp)
  clear ha
  simp only[push_cast,hal,h0,h1,cr,Xe,Tryz.f183,↓WX,simprocAttr]
 obtain⟨_,T,ho,rfl⟩:=this
 exact λst S=>callD_pure rfl (by simp only[pureL_cons,pureL_nil,hp,D.pure,Yj]) ho rfl
def cmbL (o:Option Rul):List Int:=match o with |none=>[] |some r=>r.comb
theorem rul_litC (o:Option Rul):∃c1 c2 c3 c4 c5 c6 c7 c8 d c10 c11 c12 c13 c14:D,rulD o=.agg [.int .i64 (numF o),c1,c2,c3,c4,c5,c6,c7,c8,d,c10,c11,c12,c13,c14]/\FLs 1 encZ d (cmbL o):=by
 cases o with
 |none=>exact⟨_,_,_,_,_,_,_,_,_,_,_,_,_,_,rfl,.inl ⟨rfl,rfl⟩⟩
 |some r=>
  obtain⟨w,hw⟩:∃w,r.when=w:=⟨_,rfl⟩
  have hxe:Rul.enc r=.int .i64 r.num::(w.enc++[.sl 1 (r.comb.map encZ) r.combx,.int .i64 r.mins,.int .i64 r.maxs,.int .i64 r.chg,.int .i64 r.ref,.sl 2 (r.pcs.map encPc) r.pcx]):=by rw[<-hw];rfl
  cases w with |mk k' l' lx' u' v' pf' pt' pd' t' tx'=>?_
  simp only[Cnd.enc,Ze,Zz]at hxe
  simp only[rulD,hxe,numF,cmbL]
  exact⟨_,_,_,_,_,_,_,_,_,_,_,_,_,_,rfl,.inr ⟨_,rfl⟩⟩
theorem PMix1_x (o p:Option Rul) (ho:∀r,o=some r->r.comb.length<=1048576) (hn:1048700<=n):∀st S,callD E (dcall E n) st S 182 [rulD o,rulD p]=some (.bool (mixF o (numF p)),S):=by
 obtain⟨m,rfl⟩:∃m,n=m+1:=⟨n-1,by omega⟩
 have po:=rulD_pure o
 have pp:=rulD_pure p
 have hlen:(cmbL o).length<=1048576:=by
  cases o with
  |none=>exact Xb _
  |some r=>exact ho r rfl
 have hmx:mixF o (numF p)=(decide (((cmbL o).length:Int)=0) || (cmbL o).any λx=>decide (x=numF p)):=by
  cases o with
  |none=>rfl
  |some r=>unfold mixF cmbL;dsimp only;exact Bool.or_comm _ _
 rw[hmx]
 obtain⟨x1,x2,x3,x4,x5,x6,x7,x8,d,x10,x11,x12,x13,x14,hx,hd⟩:=rul_litC o
 obtain⟨y1,y2,y3,y4,y5,y6,y7,y8,e,y10,y11,y12,y13,y14,hy,-⟩:=rul_litC p
 obtain⟨u1,u2,u3,u4,u5,u6,u7,u8,u9,u10,u11,u12,u13,u14,hu,⟨g1,g2,g3,g4,g5,g6,g7⟩,g8,g9,g10,g11,g12,g13,g14⟩:=rul_lit o
 obtain⟨v1,v2,v3,v4,v5,v6,v7,v8,v9,v10,v11,v12,v13,v14,hv,⟨k1,k2,k3,k4,k5,k6,k7⟩,k8,k9,k10,k11,k12,k13,k14⟩:=rul_lit p
 rw[hx]at hu po ⊢
 rw[hy]at hv pp ⊢
 simp only[D.agg.injEq,List.cons.injEq,WY]at hu hv
 obtain⟨rfl,rfl,rfl,rfl,rfl,rfl,rfl,rfl,rfl,rfl,rfl,rfl,rfl,rfl⟩:=hu
 obtain⟨rfl,rfl,rfl,rfl,rfl,rfl,rfl,rfl,rfl,rfl,rfl,rfl,rfl,rfl⟩:=hv
 simp only[D.one]at g1 g2 g3 g4 g5 g6 g7 g8 g9 g10 g11 g12 g13 g14 k1 k2 k3 k4 k5 k6 k7 k8 k9 k10 k11 k12 k13 k14
 have hyl:=λS=>fls_len (S:=S) Tryz.underlying70 hd
 simp only[push_cast]at hyl
 have cc:=PContI_x (n:=m) hd hlen (numF p) (by omega)
 have:WO (dcall E (m+1) 182 [.agg [.int .i64 (numF o),x1,x2,x3,x4,x5,x6,x7,x8,d,x10,x11,x12,x13,x14],.agg [.int .i64 (numF p),y1,y2,y3,y4,y5,y6,y7,y8,e,y10,y11,y12,y13,y14]] []) λr T=>r=.bool (decide (((cmbL o).length:Int)=0) || (cmbL o).any λx=>decide (x=numF p)):=by
  generalize ((cmbL o).any λx=>decide (x=numF p))=b2 at*
  generalize numF o=no at*
  generalize numF p=np at*
  refine wo_dcall Tryz.func182 rfl (by decide) rfl 16 rfl (λa hal ha=>?_)
  have h0:a[0]?=some _:=ha 0 (by simp)
  have h1:a[1]?=some _:=ha 1 (by simp)
  clear ha
  cases c:decide (((cmbL o).length:Int)=0)
  ·simp only[push_cast,hal,h0,h1,hyl,cc,c,g1,g2,g3,g4,g5,g6,g7,g8,g9,g10,g11,g12,g13,g14,k1,k2,k3,k4,k5,k6,k7,k8,k9,k10,k11,k12,k13,k14,Bool.false_or,Tryz.f182,↓WX,simprocAttr]
  ·simp only[push_cast,hal,h0,h1,hyl,c,g1,g2,g3,g4,g5,g6,g7,g8,g9,g10,g11,g12,g13,g14,k1,k2,k3,k4,k5,k6,k7,k8,k9,k10,k11,k12,k13,k14,Bool.true_or,Tryz.f182,↓WX,simprocAttr]
 obtain⟨_,T,hr,rfl⟩:=this
 exact λst S=>callD_pure rfl (by simp only[pureL_cons,pureL_nil,po,pp,Yj]) hr rfl
theorem PMix_x (o p:Option Rul) (ho:∀r,o=some r->r.comb.length<=1048576) (hp:∀r,p=some r->r.comb.length<=1048576) (hn:1048800<=n):∀st S,callD E (dcall E n) st S 130 [rulD o,rulD p]=some (.bool (mix2F o p),S):=by
 obtain⟨m,rfl⟩:∃m,n=m+1:=⟨n-1,by omega⟩
 have c1:=PMix1_x (n:=m) o p ho (by omega)
 have c2:=PMix1_x (n:=m) p o hp (by omega)
 have po:=rulD_pure o
 have pp:=rulD_pure p
 obtain⟨x1,x2,x3,x4,x5,x6,x7,x8,x9,x10,x11,x12,x13,x14,hx,⟨g1,g2,g3,g4,g5,g6,g7⟩,g8,g9,g10,g11,g12,g13,g14⟩:=rul_lit o
 obtain⟨y1,y2,y3,y4,y5,y6,y7,y8,y9,y10,y11,y12,y13,y14,hy,⟨k1,k2,k3,k4,k5,k6,k7⟩,k8,k9,k10,k11,k12,k13,k14⟩:=rul_lit p
 rw[hx,hy]at c1 c2
 rw[hx]at po ⊢
 rw[hy]at pp ⊢
 unfold mix2F
 simp only[D.one]at g1 g2 g3 g4 g5 g6 g7 g8 g9 g10 g11 g12 g13 g14 k1 k2 k3 k4 k5 k6 k7 k8 k9 k10 k11 k12 k13 k14
 have:WO (dcall E (m+1) 130 [.agg [.int .i64 (numF o),x1,x2,x3,x4,x5,x6,x7,x8,x9,x10,x11,x12,x13,x14],.agg [.int .i64 (numF p),y1,y2,y3,y4,y5,y6,y7,y8,y9,y10,y11,y12,y13,y14]] []) λr T=>r=.bool (mixF o (numF p) && mixF p (numF o)):=by
  generalize mixF o (numF p)=b1 at*
  generalize mixF p (numF o)=b2 at*
  generalize numF o=no at*
  generalize numF p=np at*
  refine wo_dcall Tryz.func130 rfl (by decide) rfl 16 rfl (λa hal ha=>?_)
  have h0:a[0]?=some _:=ha 0 (by simp)
  have h1:a[1]?=some _:=ha 1 (by simp)
  clear ha
  cases b1
  ·simp only[push_cast,hal,h0,h1,↓wo_callv,callV_func,c1,g1,g2,g3,g4,g5,g6,g7,g8,g9,g10,g11,g12,g13,g14,k1,k2,k3,k4,k5,k6,k7,k8,k9,k10,k11,k12,k13,k14,Tryz.f130,↓WX,simprocAttr,WY]
  ·simp only[push_cast,hal,h0,h1,↓wo_callv,callV_func,c1,c2,g1,g2,g3,g4,g5,g6,g7,g8,g9,g10,g11,g12,g13,g14,k1,k2,k3,k4,k5,k6,k7,k8,k9,k10,k11,k12,k13,k14,Tryz.f130,↓WX,simprocAttr,WY]
 obtain⟨_,T,hr,rfl⟩:=this
 exact λst S=>callD_pure rfl (by simp only[pureL_cons,pureL_nil,po,pp,Yj]) hr rfl
end
def ofsP (u:Int):Int->List Shf->Int
 |q,[]=>q
 |q,x::xs=>if u<x.tm then q else ofsP u x.off xs
section
variable {n : Nat}
theorem PStay_x (o:Option Rul) (u v:Int) (hn:1<=n):∀st S,callD E (dcall E n) st S 133 [rulD o,.int .i64 u,.int .i64 v]=some (.int .i64 (stayR o u v),S):=by
 obtain⟨m,rfl⟩:∃m,n=m+1:=⟨n-1,by omega⟩
 have key:∀(c0:Int) (c1 c2:D) (i0 i1 i2 i3 i4 i5:Int) (c8 c9:D) (mn mx ch rf:Int) (c14:D),(c2.one=true/\c8.one=true/\c9.one=true/\c14.one=true)->c1=.int .i64 i0->WO (dcall E (m+1) 133 [.agg [.int .i64 c0,.int .i64 i0,c2,.int .i64 i1,.int .i64 i2,.int .i64 i3,.int .i64 i4,.int .i64 i5,c8,c9,.int .i64 mn,.int .i64 mx,.int .i64 ch,.int .i64 rf,c14],.int .i64 u,.int .i64 v] []) λr T=>r=.int .i64 (stayF mn mx u v):=by
  intro c0 c1 c2 i0 i1 i2 i3 i4 i5 c8 c9 mn mx ch rf c14 hone _
  simp only[D.one]at hone
  obtain⟨n2,n8,n9,n14⟩:=hone
  obtain⟨q,hq⟩:∃q,q=stayF mn mx u v:=⟨_,rfl⟩
  rw[<-hq]
  unfold stayF at hq
  refine wo_dcall Tryz.func133 rfl (by decide) rfl 40 rfl (λa hal ha=>?_)
  have h0:a[0]?=some _:=ha 0 (by simp)
  have h1:a[1]?=some _:=ha 1 (by simp)
  have h2:a[2]?=some _:=ha 2 (by simp)
  clear ha
  by_cases e1:u<0
  ·simp only[push_cast,hal,h0,h1,n2,n8,n9,n14,e1,Tryz.f133,↓WX,simprocAttr]
   rw[hq,if_pos (by omega)]
  by_cases e2:36525<=u
  ·simp only[push_cast,hal,h0,h1,n2,n8,n9,n14,e1,e2,Tryz.f133,↓WX,simprocAttr]
   rw[hq,if_pos (by omega)]
  by_cases e3:v<0
  ·simp only[push_cast,hal,h0,h1,h2,n2,n8,n9,n14,e1,e2,e3,Tryz.f133,↓WX,simprocAttr]
   rw[hq,if_pos (by omega)]
  by_cases e4:36525<=v
  ·simp only[push_cast,hal,h0,h1,h2,n2,n8,n9,n14,e1,e2,e3,e4,Tryz.f133,↓WX,simprocAttr]
   rw[hq,if_pos (by omega)]
  rw[if_neg (by omega)]at hq
  by_cases e5:v-u<mn
  ·simp(maxSteps:=1000000)(disch:=omega)only[push_cast,hal,h0,h1,h2,n2,n8,n9,n14,e1,e2,e3,e4,e5,wrap_ok,Tryz.f133,↓WX,simprocAttr]
   rw[hq,if_pos (by omega)]
  by_cases e6:0<mx
  case neg=>
   simp(maxSteps:=1000000)(disch:=omega)only[push_cast,Zx,hal,h0,h1,h2,n2,n8,n9,n14,e1,e2,e3,e4,e5,e6,wrap_ok,Tryz.f133,↓WX,simprocAttr]
   rw[hq,if_neg (by omega)]
  by_cases e7:mx<v-u
  ·simp(maxSteps:=1000000)(disch:=omega)only[push_cast,Zx,hal,h0,h1,h2,n2,n8,n9,n14,e1,e2,e3,e4,e5,e6,e7,wrap_ok,Tryz.f133,↓WX,simprocAttr]
   rw[hq,if_pos (by omega)]
  ·simp(maxSteps:=1000000)(disch:=omega)only[push_cast,Zx,hal,h0,h1,h2,n2,n8,n9,n14,e1,e2,e3,e4,e5,e6,e7,wrap_ok,Tryz.f133,↓WX,simprocAttr]
   rw[hq,if_neg (by omega)]
 have:WO (dcall E (m+1) 133 [rulD o,.int .i64 u,.int .i64 v] []) λr T=>r=.int .i64 (stayR o u v):=by
  cases o with
  |none=>exact key 0 (.int .i64 0) .nils 0 0 0 0 0 0 .nils .nils 0 0 0 0 .nils ⟨rfl,rfl,rfl,rfl⟩ rfl
  |some r=>
   obtain⟨w,hw⟩:∃w,r.when=w:=⟨_,rfl⟩
   have hxe:Rul.enc r=.int .i64 r.num::(w.enc++[.sl 1 (r.comb.map encZ) r.combx,.int .i64 r.mins,.int .i64 r.maxs,.int .i64 r.chg,.int .i64 r.ref,.sl 2 (r.pcs.map encPc) r.pcx]):=by rw[<-hw];rfl
   cases w with |mk k' l' lx' u' v' pf' pt' pd' t' tx'=>?_
   simp only[Cnd.enc,Ze,Zz]at hxe
   simp only[rulD,hxe,stayR]
   exact key _ _ _ _ _ _ _ _ _ _ _ _ _ _ _ _ ⟨rfl,rfl,rfl,rfl⟩ rfl
 obtain⟨_,T,hr,rfl⟩:=this
 exact λst S=>callD_pure rfl (by simp only[pureL_cons,pureL_nil,rulD_pure,D.pure,Yj]) hr rfl
theorem POffset_x (hn:1048580<=n) (z:Int) {sd:D} {l:List Shf} (hs:FLs 2 Shf.enc sd l) (hl:l.length<=1048576) (u:Int):∀st S,callD E (dcall E n) st S 177 [.agg [.int .i64 z,sd],.int .i64 u]=some (.int .i64 (ofsP u z l),S):=by
 obtain⟨m,rfl⟩:∃m,n=m+1:=⟨n-1,by omega⟩
 have hp:=fls_pure hs (Shfs_pure l)
 have ho:=fls_one hs
 simp only[D.one]at ho
 have hy:=λS=>fls_len (S:=S) Tryz.underlying55 hs
 simp only[push_cast]at hy
 have:WO (dcall E (m+1) 177 [.agg [.int .i64 z,sd],.int .i64 u] []) λr T=>r=.int .i64 (ofsP u z l):=by
  refine wo_dcall Tryz.func177 rfl (by decide) rfl 25 rfl (λa hal ha=>?_)
  have h0:a[0]?=some _:=ha 0 (by simp)
  have h1:a[1]?=some _:=ha 1 (by simp)
  clear ha
  simp only[push_cast,hal,h0,ho,hy,↓WX,simprocAttr]
  refine wl_loop (λi a T=>(∃q:Int,a[5]?=some (.int .i64 q)/\ofsP u z l=ofsP u q (l.drop i))/\a.length=25/\a[1]?=some (.int .i64 u)/\a[11]?=some (sd)/\a[12]?=some (.int .i64 l.length)/\a[13]?=some (.int .i64 i)) l.length ?_ (by omega) ?_
  ·simp only[push_cast,hal,h1,simprocAttr,WY]
   exact⟨_,rfl,rfl⟩
  rintro i a T hi ⟨⟨q,h5,e⟩,hal,h1,h11,h12,h13⟩
  rcases Yf hi with hlt |rfl
  case inr=>
   rw[Zt,ofsP]at e
   rw[e]
   simp only[push_cast,hal,h5,h12,h13,Tryz.f177,↓WX,simprocAttr,WY]
  have hltc:(i:Int)<l.length:=by omega
  obtain⟨x,hx⟩:∃x,l[i]?=some x:=⟨l[i],by simp⟩
  rw[drop_at hx,ofsP]at e
  rcases hs with ⟨-,rfl⟩ | ⟨lx,rfl⟩
  ·cases hx
  refine wc_scut (λa W=>W=T/\a.length=25/\a[1]?=some (.int .i64 u)/\a[5]?=some (.int .i64 q)/\a[11]?=some (.sl 2 (l.map Shf.enc) lx)/\a[12]?=some (.int .i64 l.length)/\a[13]?=some (.int .i64 i)/\a[14]?=some (.bool true)) ?_ ?_
  ·simp only[push_cast,hal,h1,h5,h11,h12,h13,hltc,↓WX,simprocAttr]
  rintro a W ⟨-,hal,h1,h5,h11,h12,h13,h14⟩
  refine wc_scut (λa V=>V=W/\a.length=25/\a[1]?=some (.int .i64 u)/\a[5]?=some (.int .i64 q)/\a[11]?=some (.sl 2 (l.map Shf.enc) lx)/\a[12]?=some (.int .i64 l.length)/\a[13]?=some (.int .i64 i)) ?_ ?_
  ·simp only[push_cast,hal,h1,h5,h11,h12,h13,h14,↓WX]
  rintro a W2 ⟨-,hal,h1,h5,h11,h12,h13⟩
  rw[wc_seq,wc_block]
  refine wc_scut (λa V=>(∃kx,a[7]?=some (.loc kx 0 0)/\V[kx]?=some (Ob.row 2 [x.enc]))/\a.length=25/\a[1]?=some (.int .i64 u)/\a[5]?=some (.int .i64 q)/\a[11]?=some (.sl 2 (l.map Shf.enc) lx)/\a[12]?=some (.int .i64 l.length)/\a[13]?=some (.int .i64 i)) ?_ ?_
  ·simp only[push_cast,hal,h1,h5,h11,h12,h13,hx,get_end,set_end,Shf.enc,↓WX,simprocAttr]
   exact⟨_,rfl,get_end⟩
  rintro a V ⟨⟨kx,h7,gx⟩,hal,h1,h5,h11,h12,h13⟩
  simp only[Shf.enc]at gx
  by_cases c:u<x.tm
  ·rw[if_pos c]at e
   rw[e]
   simp only[push_cast,Zx,hal,h1,h5,h7,gx,c,Tryz.f177,↓WX,simprocAttr]
  ·rw[if_neg c]at e
   simp(maxSteps:=1000000)(disch:=omega)only[push_cast,Zx,hal,h1,h7,h11,h12,h13,gx,c,hlt,wrap_ok,Int.natCast_add,Int.natCast_one,↓WX,simprocAttr]
   exact⟨_,rfl,e⟩
 obtain⟨_,T,ho,rfl⟩:=this
 exact λst S=>callD_pure rfl (by simp only[pureL_cons,pureL_nil,D.pure,hp,Yj]) ho rfl
theorem PLocal_x (hn:1048581<=n) (z:Int) {sd:D} {l:List Shf} (hs:FLs 2 Shf.enc sd l) (hl:l.length<=1048576) (u:Int):∀st S,callD E (dcall E n) st S 122 [.agg [.int .i64 z,sd],.int .i64 u]=some (.int .i64 (IntKind.i64.wrap (u+ofsP u z l)),S):=by
 obtain⟨m,rfl⟩:∃m,n=m+1:=⟨n-1,by omega⟩
 have hq:=POffset_x (n:=m) (by omega) z hs hl u
 have hp:=fls_pure hs (Shfs_pure l)
 have ho:=fls_one hs
 simp only[D.one]at ho
 have:WO (dcall E (m+1) 122 [.agg [.int .i64 z,sd],.int .i64 u] []) λr T=>r=.int .i64 (IntKind.i64.wrap (u+ofsP u z l)):=by
  refine wo_dcall Tryz.func122 rfl (by decide) rfl 10 rfl (λa hal ha=>?_)
  have h0:a[0]?=some _:=ha 0 (by simp)
  have h1:a[1]?=some _:=ha 1 (by simp)
  clear ha
  simp only[push_cast,hal,h0,h1,ho,hq,Tryz.f122,↓WX,simprocAttr]
 obtain⟨_,T,ho,rfl⟩:=this
 exact λst S=>callD_pure rfl (by simp only[pureL_cons,pureL_nil,D.pure,hp,Yj]) ho rfl
end
end Go.Proofs.YtaklebjoenophaaGreat.Dm
