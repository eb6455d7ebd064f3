/-
  The taxes of a journey, and sums: the program, exactly.
-/
import Derived.Test.YtaklebjoenophaaGreatPrV
import Derived.Test.YtaklebjoenophaaGreatPrL
set_option maxHeartbeats 64000000
set_option maxRecDepth 100000
set_option linter.unusedSimpArgs false
set_option linter.unusedVariables false
namespace Go.Proofs.YtaklebjoenophaaGreat.Dm
open Go Gw
theorem sm_pos:∀(l:List Int),(∀x∈l,0<=x)->0<=sm l
 | [],_=>Int.le_refl _
 |x::xs,h=>by
  have:=h x (Uo ..)
  have:=sm_pos xs λy hy=>h y (Um _ hy)
  rw[sm]
  omega
theorem famF_eq:∀(l:List Int) (f:Int),(∀x∈l,0<=x)->0<=f->f<=1099511627776->famF l f=if f+sm l<=1099511627776 then some (f+sm l) else none
 | [],f,_,h0,h1=>by rw[famF,sm,Int.add_zero,if_pos h1]
 |x::xs,f,h,h0,h1=>by
  have x0:=h x (Uo ..)
  have hs:=sm_pos xs λy hy=>h y (Um _ hy)
  rw[famF,sm]
  by_cases c:x<=1099511627776
  ·rw[Yf (by omega) (by omega)]
   by_cases d:f+x<=1099511627776
   ·rw[if_neg (by omega),famF_eq xs (f+x) (λy hy=>h y (Um _ hy)) (by omega) d,Int.add_assoc]
   ·rw[if_pos (.inr (by omega)),if_neg (by omega)]
  ·rw[if_pos (.inl (by omega)),if_neg (by omega)]
def sumR (l:List Int):Int×Int:=if sm l<=1099511627776 then (sm l,0) else (0,11)
section
variable {n : Nat}
theorem PTimes_x (p:Plc) (hpa:p.aps.length<=1048576) (x:Tx) (hg:TxG x) (hxf:x.free.length<=1048576) (l:List Wnt) (lx:Bool) (hl:l.length<=1000) (htm:∀w∈l,w.tm) (s:ByteArray) (hn:1048801<=n):∀st S,Yi E (Yb E n) st S 135 [.agg p.enc,.agg x.enc,.sl 7 (l.map Wnt.seg) lx,.str s]=some (.int .i64 (timF p x l s),S):=by
 obtain⟨m,rfl⟩:∃m,n=m+1:=⟨n-1,by omega⟩
 obtain⟨_,T,ho,rfl⟩:=PTimes_d (n:=m) p hpa x hg hxf l lx hl htm s (by omega)
 exact λst S=>Yd rfl (by simp only[Yc,Yg,D.pure,Yt,Tx_pure,Segs_pure,Ua]) ho rfl
theorem PSum_d {S:List Ob} {d:D} {l:List Int} (h:LQ 1 encZ S d l) (hl:l.length<=100000) (h0:∀x∈l,0<=x) (hn:100010<=n):WO (Yb E (n+1) 75 [d] S) λr T=>r=.tup [.int .i64 (sumR l).1,.int .i64 (sumR l).2]/\∃J,T=S++J:=by
 have hy:=lq_len Tryz.underlying70 h
 simp only[push_cast]at hy
 have cfi:=λx st S=>PFits_x (n:=n) x (by omega) st S
 have hSJ:∀V:List Ob,∃J,V=V++J:=λV=>⟨[],(Ur V).symm⟩
 obtain⟨q,hq⟩:∃q,q=sumR l:=⟨_,rfl⟩
 rw[<-hq]
 unfold sumR at hq
 refine Ye Tryz.func75 rfl (by decide) rfl 28 rfl (λa hal ha=>?_)
 have h0:a[0]?=some (d):=ha 0 (by simp)
 clear ha
 refine Ya (λa V=>V=S/\a.length=28/\a[0]?=some (d)) ?_ ?_
 ·simp(maxSteps:=1000000)(disch:=omega)only[push_cast,hal,h0,↓WX,simprocAttr]
 clear hal h0 a
 rintro a V ⟨rfl,hal,h0⟩
 refine Ya (λa T=>T=V/\a.length=28/\a[0]?=some (d)/\a[4]?=some (.int .i64 0)) ?_ ?_
 ·simp(maxSteps:=1000000)(disch:=omega)only[push_cast,hal,h0,↓WX,simprocAttr]
 clear hal h0 a
 rintro a T ⟨rfl,hal,h0,h4⟩
 refine Za (λa V=>(V=T/\∃f:Int,a[4]?=some (.int .i64 f)/\q=(f,0))/\a.length=28) ?_ ?_
 ·simp(maxSteps:=1000000)(disch:=omega)only[push_cast,hal,h0,hy,↓WX,simprocAttr]
  refine Yk (λi a V=>(V=T/\∃f:Int,a[4]?=some (.int .i64 f)/\0<=f/\f<=1099511627776/\q=(if f+sm (l.drop i)<=1099511627776 then (f+sm (l.drop i),0) else (0,11)))/\a.length=28/\a[7]?=some (d)/\a[8]?=some (.int .i64 l.length)/\a[9]?=some (.int .i64 i)) l.length ?_ (by omega) ?_
  ·simp(maxSteps:=1000000)(disch:=omega)only[push_cast,hal,h4,Int.natCast_zero,simprocAttr]
   exact⟨0,rfl,by omega,by omega,by rw[Int.zero_add];exact hq⟩
  clear hal h0 h4 a
  clear hq hy
  rintro i a V hi ⟨⟨rfl,f,h4,f0,f1,e⟩,hal,h7,h8,h9⟩
  rcases Kw hi with hlt |rfl
  case inr=>
   rw[Vj,sm,Int.add_zero,if_pos f1]at e
   simp(maxSteps:=1000000)(disch:=omega)only[push_cast,hal,h4,h8,h9,Int.lt_irrefl,false_and,or_false,true_and,↓WX,simprocAttr]
   exact⟨_,rfl,e⟩
  have hltc:(i:Int)<l.length:=by omega
  obtain⟨x,hx⟩:∃x,l[i]?=some x:=⟨l[i],by simp⟩
  have hx0:=h0 x (Kx hx)
  have hsn:=sm_pos (l.drop (i+1)) λy hy=>h0 y (List.mem_of_mem_drop hy)
  rw[Yu hx,sm]at e
  refine Ya (λa T=>T=V/\a.length=28/\a[4]?=some (.int .i64 f)/\a[7]?=some (d)/\a[8]?=some (.int .i64 l.length)/\a[9]?=some (.int .i64 i)/\a[10]?=some (.bool true)) ?_ ?_
  ·simp(maxSteps:=1000000)(disch:=omega)only[push_cast,hal,h4,h7,h8,h9,hltc,↓WX,simprocAttr]
  clear hal h4 h7 h8 h9 a
  rintro a T ⟨rfl,hal,h4,h7,h8,h9,h10⟩
  refine Ya (λa V=>V=T/\a.length=28/\a[4]?=some (.int .i64 f)/\a[7]?=some (d)/\a[8]?=some (.int .i64 l.length)/\a[9]?=some (.int .i64 i)) ?_ ?_
  ·simp(maxSteps:=1000000)(disch:=omega)only[push_cast,hal,h4,h7,h8,h9,h10,↓WX]
  clear hal h4 h7 h8 h9 h10 a
  rintro a V ⟨rfl,hal,h4,h7,h8,h9⟩
  rw[Zx,Yx]
  refine Ya (λa T=>T=V/\a.length=28/\a[4]?=some (.int .i64 f)/\a[6]?=some (.int .i64 x)/\a[7]?=some (d)/\a[8]?=some (.int .i64 l.length)/\a[9]?=some (.int .i64 i)) ?_ ?_
  ·rcases h with ⟨-,rfl⟩ | ⟨lx,rfl,hk0⟩ | ⟨kk,rfl,hk0⟩
   ·cases hx
   case' inr.inr=>have hk0:=hk0 [];rw[Ur]at hk0
   all_goals
    simp(maxSteps:=1000000)(disch:=omega)only[push_cast,hal,h4,h7,h8,h9,hk0,hlt,hx,encZ,↓WX,simprocAttr]
  clear hal h4 h7 h8 h9 a
  rintro a T ⟨rfl,hal,h4,h6,h7,h8,h9⟩
  have cx:=cfi x
  rw[Ue (show -1099511627776<=x by omega),Bool.true_and]at cx
  by_cases c1:x<=1099511627776
  case neg=>
   rw[if_neg (by omega)]at e
   subst e
   rw[Ud c1]at cx
   simp(maxSteps:=1000000)(disch:=omega)only[push_cast,hal,h6,cx,Bool.not_false,false_and,false_or,true_and,Tryz.f75,↓WX,simprocAttr]
   exact hSJ _
  rw[Ue c1]at cx
  have hw:IntKind.i64.wrap (f+x)=f+x:=Yf (by omega) (by omega)
  have cy:=cfi (f+x)
  rw[Ue (show -1099511627776<=f+x by omega),Bool.true_and]at cy
  by_cases c2:f+x<=1099511627776
  case neg=>
   rw[if_neg (by omega)]at e
   subst e
   rw[Ud c2]at cy
   simp(maxSteps:=1000000)(disch:=omega)only[push_cast,hal,h4,h6,cx,cy,hw,Bool.not_false,Bool.not_true,false_and,false_or,true_and,Tryz.f75,↓WX,simprocAttr]
   exact hSJ _
  rw[Ue c2]at cy
  rw[<-Int.add_assoc]at e
  simp(maxSteps:=1000000)(disch:=omega)only[push_cast,hal,h4,h6,h7,h8,h9,cx,cy,hw,hlt,Bool.not_true,Yf,Int.natCast_add,Int.natCast_one,true_and,↓WX,simprocAttr]
  exact⟨_,rfl,by omega,c2,e⟩
 clear hal h0 h4 a
 rintro a V ⟨⟨rfl,f,h4,rfl⟩,hal⟩
 simp(maxSteps:=1000000)(disch:=omega)only[push_cast,hal,h4,Tryz.f75,↓WX,simprocAttr]
 exact hSJ _
theorem PSum_x {S:List Ob} {d:D} {l:List Int} (h:LQ 1 encZ S d l) (hl:l.length<=100000) (h0:∀x∈l,0<=x) (hn:100011<=n):∀st,Yi E (Yb E n) st S 75 [d]=some (.tup [.int .i64 (sumR l).1,.int .i64 (sumR l).2],S):=by
 obtain⟨m,rfl⟩:∃m,n=m+1:=⟨n-1,by omega⟩
 exact obs_q (A:=λd=>[d]) rfl (encZs_pure' l) rfl (λd hd=>by simp only[Yc,Yg,hd,Ua]) (λk n=>rfl) (λS h=>PSum_d h hl h0 (by omega)) h
theorem PAdd_x (x y:Int) (hx:0<=x) (hy:0<=y) (hn:100012<=n):∀st S,Yi E (Yb E n) st S 79 [.int .i64 x,.int .i64 y]=some (.tup [.int .i64 (sumR [x,y]).1,.int .i64 (sumR [x,y]).2],S):=by
 obtain⟨m,rfl⟩:∃m,n=m+1:=⟨n-1,by omega⟩
 have h0:∀z∈[x,y],0<=z:=λz hz=>by
  rcases List.mem_cons.1 hz with rfl |hz
  ·exact hx
  ·rw[List.mem_singleton.1 hz];exact hy
 have csu:=PSum_x (n:=m) (S:=[]) (d:=.sl 1 [[.int .i64 x],[.int .i64 y]] true) (l:=[x,y]) (FLs.lq (.inr ⟨true,rfl⟩)) (by show 2<=100000;omega) h0 (by omega)
 generalize sumR [x,y]=z at*
 obtain⟨z1,z2⟩:=z
 dsimp only at*
 have:WO (Yb E (m+1) 79 [.int .i64 x,.int .i64 y] []) λr T=>r=.tup [.int .i64 z1,.int .i64 z2]:=by
  refine Ye Tryz.func79 rfl (by decide) rfl 12 rfl (λa hal ha=>?_)
  obtain⟨h0,h1⟩:=aQ2 ha
  clear ha
  simp only[push_cast,hal,h0,h1,csu,Tryz.f79,↓WX,simprocAttr]
 obtain⟨_,T,ho,rfl⟩:=this
 exact λst S=>Yd rfl rfl ho rfl
theorem PTSum_x {d:D} {cs:List (ByteArray×Int)} (h:FLs 2 Jf d cs) (hl:cs.length<=90000) (h0:∀c∈cs,0<=c.2) (hn:100012<=n):∀st S,Yi E (Yb E n) st S 78 [d]=some (.tup [.int .i64 (sumR (cs.map (·.2))).1,.int .i64 (sumR (cs.map (·.2))).2],S):=by
 obtain⟨m,rfl⟩:∃m,n=m+1:=⟨n-1,by omega⟩
 have hp:Yp [d]=true:=by simp only[Yc,Yg,Xr h (Ko _),Ua]
 have hy:=λT=>Jv (S:=T) Tryz.underlying39 h
 simp only[push_cast]at hy
 have ap:∀ {T:List Ob} {d:D} {cs:List Int},GL 1 encZ T d cs->cs.length<=100000->∀c:Int,∃S',Zb Tryz.prog T 70 70 d (.sl 1 [[.int .i64 c]] true)=some (.os T.length 0 (cs.length+1) false,S')/\GL 1 encZ S' (.os T.length 0 (cs.length+1) false) (cs++[c]):=λh hc c=>by
  obtain⟨S',a1,a2,-⟩:=app_gl (t:=70) (e:=3) (z:=.int .i64 0) (n:=0) (by kernel_rfl) (by kernel_rfl) (by kernel_rfl) rfl (Nat.le_of_ble_eq_true (by kernel_rfl)) h hc c
  exact⟨S',a1,a2⟩
 have csu:=λ{T:List Ob} {e:D} (g:GL 1 encZ T e (cs.map (·.2)))=>PSum_x (n:=m) g.lq (by rw[Uq];omega) (λx hx=>by obtain⟨y,hy,rfl⟩:=Vq.1 hx;exact h0 y hy) (by omega)
 generalize sumR (cs.map (·.2))=z at*
 obtain⟨z1,z2⟩:=z
 dsimp only at*
 have:WO (Yb E (m+1) 78 [d] []) λr T=>r=.tup [.int .i64 z1,.int .i64 z2]:=by
  clear hp
  refine Ye Tryz.func78 rfl (by decide) rfl 23 rfl (λa hal ha=>?_)
  have h0:=aQ1 ha
  clear ha
  refine Ya (λa V=>V=[]/\a.length=23/\a[0]?=some (d)) ?_ ?_
  ·simp only[push_cast,hal,h0,↓WX,simprocAttr]
  rintro a V ⟨rfl,hal,h0⟩
  refine Ya (λa T=>T=[]/\gQ a 23 (a[4]?=some (.nils)) [(0,d)]) ?_ ?_
  ·simp only[push_cast,hal,h0,↓WX,simprocAttr]
  rintro a T ⟨rfl,hal,h0,h4⟩
  refine Ya (λa V=>(∃e,a[4]?=some e/\GL 1 encZ V e (cs.map (·.2)))/\a.length=23) ?_ ?_
  ·simp only[push_cast,hal,h0,hy,↓WX,simprocAttr]
   refine Yk (λi a V=>(∃e,a[4]?=some e/\GL 1 encZ V e ((cs.take i).map (·.2)))/\a.length=23/\a[7]?=some (d)/\a[8]?=some (.int .i64 cs.length)/\a[9]?=some (.int .i64 i)) cs.length ?_ (by omega) ?_
   ·simp only[push_cast,hal,h4,simprocAttr,WY]
    exact⟨_,rfl,GL.nil⟩
   clear hy
   rintro i a V hi ⟨⟨e,h4,hg⟩,hal,h7,h8,h9⟩
   rcases Kw hi with hlt |rfl
   case inr=>
    rw[Vi]at hg
    simp only[push_cast,hal,h4,h8,h9,↓WX,simprocAttr,WY]
    exact⟨_,rfl,hg⟩
   have hltc:(i:Int)<cs.length:=by omega
   obtain⟨x,hx⟩:∃x,cs[i]?=some x:=⟨cs[i],by simp⟩
   have hti:(cs.take (i+1)).map (·.2)=(cs.take i).map (·.2)++[x.2]:=by rw[List.take_add_one,hx,List.map_append];rfl
   refine Ya (λa T=>T=V/\gQ a 23 (a[10]?=some (.bool true)) [(4,e),(7,d),(8,.int .i64 cs.length),(9,.int .i64 i)]) ?_ ?_
   ·simp only[push_cast,hal,h4,h7,h8,h9,hltc,↓WX,simprocAttr]
   rintro a T ⟨rfl,hal,h4,h7,h8,h9,h10⟩
   refine Ya (λa V=>V=T/\gQ a 23 (a[9]?=some (.int .i64 i)) [(4,e),(7,d),(8,.int .i64 cs.length)]) ?_ ?_
   ·simp only[push_cast,hal,h4,h7,h8,h9,h10,↓WX]
   rintro a V ⟨rfl,hal,h4,h7,h8,h9⟩
   rw[Zx,Yx]
   refine Ya (λa T=>T=V++[.row 2 [[.str x.1,.int .i64 x.2]]]/\gQ a 23 (a[9]?=some (.int .i64 i)) [(4,e),(6,.loc V.length 0 0),(7,d),(8,.int .i64 cs.length)]) ?_ ?_
   ·rcases h with ⟨-,rfl⟩ | ⟨lx,rfl⟩
    ·cases hx
    simp only[push_cast,hal,h4,h7,h8,h9,hx,Yq,Yl,Jf,↓WX,simprocAttr]
   rintro a T ⟨hT,hal,h4,h6,h7,h8,h9⟩
   have hg:=hg.push (.row 2 [[.str x.1,.int .i64 x.2]])
   rw[<-hT]at hg
   have gx:T[V.length]?=some (.row 2 [[.str x.1,.int .i64 x.2]]):=by rw[hT];exact Yl
   obtain⟨S',a1,a2⟩:=ap hg (by rw[Uq,Ve];omega) x.2
   clear hT
   simp(disch:=omega)only[push_cast,hal,h4,h6,h7,h8,h9,hlt,gx,a1,Yf,↓WX,simprocAttr,WY]
   exact⟨_,rfl,by rw[hti];first |exact a2 |simpa only[List.length_map]using a2⟩
  rintro a V ⟨⟨e,h4,hg⟩,hal⟩
  have csu:=csu hg
  simp only[push_cast,hal,h4,csu,Tryz.f78,↓WX,simprocAttr]
 obtain⟨_,T,ho,rfl⟩:=this
 exact λst S=>Yd rfl hp ho rfl
theorem PSegs_x (p:Plc) (t:Trf) (w:List Wnt) (wx:Bool) (s:ByteArray) (sale:Int) (hl:w.length<=1000) (hl0:w≠[]) (hn:2001<=n):∃x,∀st S,Yi E (Yb E n) st S 77 [.agg [.sl 5 (p.aps.map Apt.enc) p.apsx,.sl 3 (p.dts.map Dst.enc) p.dtsx,.sl 9 (t.fares.map Far.enc) t.fx,.sl 15 (t.rules.map Rul.enc) t.rx,.sl 3 (t.rous.map Rou.enc) t.ox,.sl 7 (t.taxes.map Tx.enc) t.tx,.sl 8 (w.map Wnt.enc) wx,.str s,.int .i64 sale]]=some (.sl 7 (w.map Wnt.seg) x,S):=by
 obtain⟨m,rfl⟩:∃m,n=m+1:=⟨n-1,by omega⟩
 have hp:Yp [.agg [.sl 5 (p.aps.map Apt.enc) p.apsx,.sl 3 (p.dts.map Dst.enc) p.dtsx,.sl 9 (t.fares.map Far.enc) t.fx,.sl 15 (t.rules.map Rul.enc) t.rx,.sl 3 (t.rous.map Rou.enc) t.ox,.sl 7 (t.taxes.map Tx.enc) t.tx,.sl 8 (w.map Wnt.enc) wx,.str s,.int .i64 sale]]=true:=by
  have h1:=Yt p
  have h2:=Ja t
  simp only[Plc.enc,Trf.enc,Yc,Yg,D.pure,Ua,Kv]at h1 h2
  simp only[Yc,Yg,D.pure,h1,h2,Jd,Ua]
 have ap:∀ {T:List Ob} {d:D} {cs:List Wnt},GL 7 Wnt.seg T d cs->cs.length<=100000->∀c:Wnt,∃S',Zb Tryz.prog T 152 152 d (.sl 7 [c.seg] true)=some (.os T.length 0 (cs.length+1) false,S')/\GL 7 Wnt.seg S' (.os T.length 0 (cs.length+1) false) (cs++[c]):=λh hc c=>by
  obtain⟨S',a1,a2,-⟩:=app_gl (t:=152) (e:=75) (z:=.agg [.str (ByteArray.mk #[]),.int .i64 0,.int .i64 0,.str (ByteArray.mk #[]),.str (ByteArray.mk #[]),.int .i64 0,.int .i64 0]) (n:=6) (by kernel_rfl) (by kernel_rfl) (by kernel_rfl) rfl (Nat.le_of_ble_eq_true (by kernel_rfl)) h hc c
  exact⟨S',a1,a2⟩
 have:WO (Yb E (m+1) 77 [.agg [.sl 5 (p.aps.map Apt.enc) p.apsx,.sl 3 (p.dts.map Dst.enc) p.dtsx,.sl 9 (t.fares.map Far.enc) t.fx,.sl 15 (t.rules.map Rul.enc) t.rx,.sl 3 (t.rous.map Rou.enc) t.ox,.sl 7 (t.taxes.map Tx.enc) t.tx,.sl 8 (w.map Wnt.enc) wx,.str s,.int .i64 sale]] []) λr T=>GL 7 Wnt.seg T r w:=by
  clear hp
  refine Ye Tryz.func77 rfl (by decide) rfl 20 rfl (λa hal ha=>?_)
  have h0:=aQ1 ha
  clear ha
  refine Ya (λa V=>V=[.row 9 [[.sl 5 (p.aps.map Apt.enc) p.apsx,.sl 3 (p.dts.map Dst.enc) p.dtsx,.sl 9 (t.fares.map Far.enc) t.fx,.sl 15 (t.rules.map Rul.enc) t.rx,.sl 3 (t.rous.map Rou.enc) t.ox,.sl 7 (t.taxes.map Tx.enc) t.tx,.sl 8 (w.map Wnt.enc) wx,.str s,.int .i64 sale]]]/\a.length=20/\a[1]?=some (.loc 0 0 0)) ?_ ?_
  ·simp only[push_cast,hal,h0,↓WX,simprocAttr]
  rintro a V ⟨rfl,hal,h1⟩
  refine Ya (λa V=>V=[.row 9 [[.sl 5 (p.aps.map Apt.enc) p.apsx,.sl 3 (p.dts.map Dst.enc) p.dtsx,.sl 9 (t.fares.map Far.enc) t.fx,.sl 15 (t.rules.map Rul.enc) t.rx,.sl 3 (t.rous.map Rou.enc) t.ox,.sl 7 (t.taxes.map Tx.enc) t.tx,.sl 8 (w.map Wnt.enc) wx,.str s,.int .i64 sale]]]/\gQ a 20 (a[3]?=some (.nils)) [(1,.loc 0 0 0)]) ?_ ?_
  ·simp only[push_cast,hal,h1,↓WX,simprocAttr]
  rintro a V ⟨rfl,hal,h1,h3⟩
  refine Ya (λa V=>(∃e,a[3]?=some e/\GL 7 Wnt.seg V e w)/\a.length=20) ?_ ?_
  ·simp only[push_cast,hal,h1,↓WX,simprocAttr]
   refine Yk (λi a V=>(∃e,a[3]?=some e/\GL 7 Wnt.seg V e (w.take i))/\a.length=20/\a[7]?=some (.sl 8 (w.map Wnt.enc) wx)/\a[8]?=some (.int .i64 w.length)/\a[9]?=some (.int .i64 i)) w.length ?_ (by omega) ?_
   ·simp only[push_cast,hal,h3,simprocAttr,WY]
    exact⟨_,rfl,GL.nil⟩
   rintro i a V hi ⟨⟨e,h3,hg⟩,hal,h7,h8,h9⟩
   rcases Kw hi with hlt |rfl
   case inr=>
    rw[Vi]at hg
    simp only[push_cast,hal,h3,h8,h9,↓WX,simprocAttr,WY]
    exact⟨_,rfl,hg⟩
   have hltc:(i:Int)<w.length:=by omega
   obtain⟨z,hx⟩:∃z,w[i]?=some z:=⟨w[i],by simp⟩
   have hti:(w.take (i+1))=w.take i++[z]:=by rw[List.take_add_one,hx];rfl
   refine Ya (λa T=>T=V/\gQ a 20 (a[10]?=some (.bool true)) [(3,e),(7,.sl 8 (w.map Wnt.enc) wx),(8,.int .i64 w.length),(9,.int .i64 i)]) ?_ ?_
   ·simp only[push_cast,hal,h3,h7,h8,h9,hltc,↓WX,simprocAttr]
   rintro a T ⟨rfl,hal,h3,h7,h8,h9,h10⟩
   refine Ya (λa V=>V=T/\gQ a 20 (a[9]?=some (.int .i64 i)) [(3,e),(7,.sl 8 (w.map Wnt.enc) wx),(8,.int .i64 w.length)]) ?_ ?_
   ·simp only[push_cast,hal,h3,h7,h8,h9,h10,↓WX]
   rintro a V ⟨rfl,hal,h3,h7,h8,h9⟩
   rw[Zx,Yx]
   refine Ya (λa T=>T=V++[.row 8 [[.str z.car,.int .i64 z.num,.int .i64 z.day,.str z.fr,.str z.to,.int .i64 z.dep,.int .i64 z.arr,.str z.cls]]]/\gQ a 20 (a[9]?=some (.int .i64 i)) [(3,e),(5,.loc V.length 0 0),(7,.sl 8 (w.map Wnt.enc) wx),(8,.int .i64 w.length)]) ?_ ?_
   ·simp only[push_cast,hal,h3,h7,h8,h9,hx,Yq,Yl,Wnt.enc,↓WX,simprocAttr]
   rintro a T ⟨hT,hal,h3,h5,h7,h8,h9⟩
   have hg:=hg.push (.row 8 [[.str z.car,.int .i64 z.num,.int .i64 z.day,.str z.fr,.str z.to,.int .i64 z.dep,.int .i64 z.arr,.str z.cls]])
   rw[<-hT]at hg
   have gx:T[V.length]?=some (.row 8 [[.str z.car,.int .i64 z.num,.int .i64 z.day,.str z.fr,.str z.to,.int .i64 z.dep,.int .i64 z.arr,.str z.cls]]):=by rw[hT];exact Yl
   obtain⟨S',a1,a2⟩:=ap hg (by rw[Ve];omega) z
   simp only[Wnt.seg]at a1
   clear hT
   simp(disch:=omega)only[push_cast,hal,h3,h5,h7,h8,h9,hlt,gx,a1,Yf,↓WX,simprocAttr,WY]
   exact⟨_,rfl,by rw[hti];first |exact a2 |simpa only[List.length_map]using a2⟩
  rintro a V ⟨⟨e,h3,hg⟩,hal⟩
  simp only[push_cast,hal,h3,Tryz.f77,↓WX,simprocAttr]
  exact hg
 obtain⟨r,T,ho,hg⟩:=this
 obtain⟨d',hf,hd⟩:=hg.fls (Segs_pure _)
 rcases hd with ⟨-,h⟩ | ⟨x,rfl⟩
 ·exact absurd h hl0
 ·exact⟨x,λst S=>Yd rfl hp ho hf⟩
theorem timF_one {p:Plc} {x:Tx} {l:List Wnt} {s:ByteArray} (h:x.kind=4):timF p x l s<=1:=by
 unfold timF
 repeat' split
 all_goals omega
theorem Ptax_d (p:Plc) (hpa:p.aps.length<=1048576) (l:List Tx) (lx:Bool) (hl:l.length<=90000) (hlg:∀x∈l,TxG x) (hlf:∀x∈l,x.free.length<=1048576) (w:List Wnt) (wx:Bool) (hw:w.length<=1000) (htm:∀u∈w,u.tm) (s:ByteArray) (fare:Int) (hf:0<=fare) (hn:1048801<=n):
  WO (Yb E (n+1) 76 [.agg p.enc,.sl 7 (l.map Tx.enc) lx,.sl 7 (w.map Wnt.seg) wx,.str s,.int .i64 fare] []) λr T=>∃d,r=.tup [d,.int .i64 (taxF pctF p w s fare l []).2]/\GL 2 Jf T d (taxF pctF p w s fare l []).1:=by
 have cti:=λx hx=>PTimes_x (n:=n) p hpa x (hlg x hx) (hlf x hx) w wx hw htm s (by omega)
 have ap:∀ {T:List Ob} {d:D} {cs:List (ByteArray×Int)},GL 2 Jf T d cs->cs.length<=100000->∀c:ByteArray×Int,∃S',Zb Tryz.prog T 39 39 d (.sl 2 [[.str c.1,.int .i64 c.2]] true)=some (.os T.length 0 (cs.length+1) false,S')/\GL 2 Jf S' (.os T.length 0 (cs.length+1) false) (cs++[c])/\S'.length=T.length+1/\(∀k o,(∀n,d=.os k 0 n false->False)->T[k]?=some o->S'[k]?=some o):=λh hc c=>by
  obtain⟨S',a1,a2,a3,a4,-⟩:=app_gl (t:=39) (e:=93) (z:=.agg [.str (ByteArray.mk #[]),.int .i64 0]) (n:=1) (by kernel_rfl) (by kernel_rfl) (by kernel_rfl) rfl (Nat.le_of_ble_eq_true (by kernel_rfl)) h hc c
  exact⟨S',a1,a2,a3,a4⟩
 obtain⟨q,hq⟩:∃q,q=taxF pctF p w s fare l []:=⟨_,rfl⟩
 rw[<-hq]
 simp only[Plc.enc]at cti ⊢
 obtain⟨R0,hR0⟩:∃R0,R0=Ob.row 2 [[.sl 5 (p.aps.map Apt.enc) p.apsx,.sl 3 (p.dts.map Dst.enc) p.dtsx]]:=⟨_,rfl⟩
 refine Ye Tryz.func76 rfl (by decide) rfl 63 rfl (λa hal ha=>?_)
 obtain⟨h0,h1,h2,h3,h4⟩:=aQ5 ha
 clear ha
 refine Ya (λa V=>V=[R0]/\gQ a 63 (a[11]?=some (.int .i64 0)) [(1,.sl 7 (l.map Tx.enc) lx),(2,.sl 7 (w.map Wnt.seg) wx),(3,.str s),(4,.int .i64 fare),(5,.loc 0 0 0),(10,.nils)]) ?_ ?_
 ·simp only[push_cast,hal,h0,h1,h2,h3,h4,↓WX,simprocAttr]
  rw[hR0]
 rintro a V ⟨rfl,hal,h1,h2,h3,h4,h5,h10,h11⟩
 refine Ya (λa V=>V=[R0]/\gQ a 63 (a[12]?=some (.nils)) [(1,.sl 7 (l.map Tx.enc) lx),(2,.sl 7 (w.map Wnt.seg) wx),(3,.str s),(4,.int .i64 fare),(5,.loc 0 0 0)]) ?_ ?_
 ·simp only[push_cast,hal,h1,h2,h3,h4,h5,↓WX,simprocAttr]
 rintro a V ⟨hV,hal,h1,h2,h3,h4,h5,h12⟩
 refine Za (λa T=>(∃d cs,a[12]?=some d/\GL 2 Jf T d cs/\q=(cs,0))/\a.length=63) ?_ ?_
 ·simp only[push_cast,hal,h1,↓WX,simprocAttr]
  refine Yk (λi a T=>(∃d cs,a[12]?=some d/\GL 2 Jf T d cs/\(∀n,d=.os 0 0 n false->False)/\T[0]?=some R0/\1<=T.length/\cs.length<=i/\q=taxF pctF p w s fare (l.drop i) cs)/\a.length=63/\a[2]?=some (.sl 7 (w.map Wnt.seg) wx)/\a[3]?=some (.str s)/\a[4]?=some (.int .i64 fare)/\a[5]?=some (.loc 0 0 0)/\a[19]?=some (.sl 7 (l.map Tx.enc) lx)/\a[20]?=some (.int .i64 l.length)/\a[21]?=some (.int .i64 i)) l.length ?_ (by omega) ?_
  ·simp only[push_cast,hal,h2,h3,h4,h5,h12,simprocAttr,WY]
   subst hV
   exact⟨_,[],rfl,GL.nil,(λn h=>by cases h),rfl,Uk _,Uk _,hq⟩
  clear hV hq
  rintro i a T hi ⟨⟨d,cs,h12,hg,hd,g0,hTl,hcl,e⟩,hal,h2,h3,h4,h5,h19,h20,h21⟩
  rcases Kw hi with hlt |rfl
  case inr=>
   rw[Vj,taxF]at e
   simp only[push_cast,hal,h12,h20,h21,↓WX,simprocAttr,WY]
   exact⟨_,_,rfl,hg,e⟩
  have hltc:(i:Int)<l.length:=by omega
  obtain⟨x,hx⟩:∃x,l[i]?=some x:=⟨l[i],by simp⟩
  have hxm:=Kx hx
  obtain⟨-,-,hxa,hx4⟩:=hlg x hxm
  have ct:=cti x hxm
  have h41:=timF_one (p:=p) (x:=x) (l:=w) (s:=s)
  rw[Yu hx,taxF]at e
  refine Ya (λa V=>V=T/\gQ a 63 (a[22]?=some (.bool true)) [(2,.sl 7 (w.map Wnt.seg) wx),(3,.str s),(4,.int .i64 fare),(5,.loc 0 0 0),(12,d),(19,.sl 7 (l.map Tx.enc) lx),(20,.int .i64 l.length),(21,.int .i64 i)]) ?_ ?_
  ·simp only[push_cast,hal,h2,h3,h4,h5,h12,h19,h20,h21,hltc,↓WX,simprocAttr]
  rintro a V ⟨rfl,hal,h2,h3,h4,h5,h12,h19,h20,h21,h22⟩
  refine Ya (λa T=>T=V/\gQ a 63 (a[21]?=some (.int .i64 i)) [(2,.sl 7 (w.map Wnt.seg) wx),(3,.str s),(4,.int .i64 fare),(5,.loc 0 0 0),(12,d),(19,.sl 7 (l.map Tx.enc) lx),(20,.int .i64 l.length)]) ?_ ?_
  ·simp only[push_cast,hal,h2,h3,h4,h5,h12,h19,h20,h21,h22,↓WX]
  rintro a T ⟨rfl,hal,h2,h3,h4,h5,h12,h19,h20,h21⟩
  rw[Zx,Yx]
  refine Ya (λa V=>V=T++[.row 7 [[.str x.code,.int .i64 x.kind,.str x.land,.int .i64 x.amount,.int .i64 x.scope,.int .i64 x.transit,.sl 1 (x.free.map Cnd.encT) x.freex]]]/\gQ a 63 (a[21]?=some (.int .i64 i)) [(2,.sl 7 (w.map Wnt.seg) wx),(3,.str s),(4,.int .i64 fare),(5,.loc 0 0 0),(12,d),(14,.loc T.length 0 0),(19,.sl 7 (l.map Tx.enc) lx),(20,.int .i64 l.length)]) ?_ ?_
  ·simp only[push_cast,hal,h2,h3,h4,h5,h12,h19,h20,h21,hx,Yq,Yl,Tx.enc,↓WX,simprocAttr]
  rintro a V ⟨hV,hal,h2,h3,h4,h5,h12,h14,h19,h20,h21⟩
  have v0:V[0]?=some (Ob.row 2 [[.sl 5 (p.aps.map Apt.enc) p.apsx,.sl 3 (p.dts.map Dst.enc) p.dtsx]]):=by rw[hV,<-hR0];exact Ym g0
  have v0':V[0]?=some R0:=by rw[hV];exact Ym g0
  have gx:V[T.length]?=some (.row 7 [[.str x.code,.int .i64 x.kind,.str x.land,.int .i64 x.amount,.int .i64 x.scope,.int .i64 x.transit,.sl 1 (x.free.map Cnd.encT) x.freex]]):=by rw[hV];exact Yl
  have hg:GL 2 Jf V d cs:=by rw[hV];exact hg.push _
  have hVl:1<=V.length:=by rw[hV,Ku];omega
  have hne:∀n,d=.os T.length 0 n false->False:=λn h=>by
   have:=(Kr.1 g0).1
   rcases hg with ⟨h',-⟩ | ⟨k,h',hk⟩
   ·rw[h']at h;cases h
   ·rw[h']at h
    obtain⟨rfl,-⟩:=D.os.inj h
    rw[gx]at hk
    have:=(Ob.row.inj (Kz hk)).1
    omega
  generalize T.length=kx at*
  clear hV g0 hTl
  obtain⟨S',a1,a2,a3,a4⟩:=ap hg (by omega) (x.code,(axF pctF (timF p x w s) x fare).1)
  have g0':=a4 _ _ hd v0'
  unfold axF at e a1 a2
  generalize timF p x w s=k at*
  simp only[Tx.enc]at ct
  refine Ya (λa T=>T=V/\gQ a 63 (a[21]?=some (.int .i64 i)) [(2,.sl 7 (w.map Wnt.seg) wx),(3,.str s),(4,.int .i64 fare),(5,.loc 0 0 0),(12,d),(14,.loc kx 0 0),(15,.int .i64 k),(19,.sl 7 (l.map Tx.enc) lx),(20,.int .i64 l.length)]) ?_ ?_
  ·simp only[push_cast,hal,h2,h3,h4,h5,h12,h14,h19,h20,h21,v0,gx,ct,↓WX,simprocAttr]
  rintro a T ⟨rfl,hal,h2,h3,h4,h5,h12,h14,h15,h19,h20,h21⟩
  by_cases k0:k=0
  ·subst k0
   have z:IntKind.i64.wrap (((0:Nat):Int)*x.amount)=0:=by rw[Int.natCast_zero,Int.zero_mul];exact Yf (by omega) (by omega)
   have hz:(if x.kind=4/\(0:Nat)=1 then pctF fare x.amount else (IntKind.i64.wrap (((0:Nat):Int)*x.amount),(0:Int)))=(0,0):=by rw[if_neg (λh=>by cases h.2),z]
   rw[hz]at e
   dsimp only at e
   rw[if_pos rfl,if_neg (by omega),if_pos rfl]at e
   simp(disch:=omega)only[push_cast,hal,h2,h3,h4,h5,h12,h15,h19,h20,h21,hlt,Yf,↓WX,simprocAttr,WY]
   exact⟨_,_,rfl,hg,hd,v0',hVl,by omega,e⟩
  have k0':((k:Int)=0)=False:=eq_false (by omega)
  refine Ya (λa V=>V=T/\gQ a 63 (a[21]?=some (.int .i64 i)) [(2,.sl 7 (w.map Wnt.seg) wx),(3,.str s),(4,.int .i64 fare),(5,.loc 0 0 0),(12,d),(14,.loc kx 0 0),(15,.int .i64 k),(19,.sl 7 (l.map Tx.enc) lx),(20,.int .i64 l.length)]) ?_ ?_
  ·simp only[push_cast,hal,h2,h3,h4,h5,h12,h14,h15,h19,h20,h21,k0',↓WX,simprocAttr,WY]
  rintro a V ⟨rfl,hal,h2,h3,h4,h5,h12,h14,h15,h19,h20,h21⟩
  refine Ya (λa T=>T=V/\gQ a 63 (a[21]?=some (.int .i64 i)) [(2,.sl 7 (w.map Wnt.seg) wx),(3,.str s),(4,.int .i64 fare),(5,.loc 0 0 0),(12,d),(14,.loc kx 0 0),(16,.int .i64 (IntKind.i64.wrap (k*x.amount))),(19,.sl 7 (l.map Tx.enc) lx),(20,.int .i64 l.length)]) ?_ ?_
  ·simp only[push_cast,hal,h2,h3,h4,h5,h12,h14,h15,h19,h20,h21,gx,↓WX,simprocAttr]
  rintro a T ⟨rfl,hal,h2,h3,h4,h5,h12,h14,h16,h19,h20,h21⟩
  obtain⟨am,hfa⟩:∃am,am=(if x.kind=4/\k=1 then pctF fare x.amount else (IntKind.i64.wrap (k*x.amount),0)):=⟨_,rfl⟩
  rw[<-hfa]at e a1 a2
  refine Za (λa V=>(V=T/\am.2=0)/\gQ a 63 (a[21]?=some (.int .i64 i)) [(2,.sl 7 (w.map Wnt.seg) wx),(3,.str s),(4,.int .i64 fare),(5,.loc 0 0 0),(12,d),(14,.loc kx 0 0),(16,.int .i64 am.1),(19,.sl 7 (l.map Tx.enc) lx),(20,.int .i64 l.length)]) ?_ ?_
  ·by_cases k4:x.kind=4
   ·have:=h41 k4
    have hcp:=PPercent_x (n:=n) fare x.amount hf ⟨hxa.1,by have:=hx4 k4;omega⟩ (by omega)
    rw[if_pos ⟨k4,by omega⟩]at hfa
    rw[<-hfa]at hcp
    clear hfa
    obtain⟨am,ae⟩:=am
    dsimp only at*
    by_cases c1:ae=0
    ·subst c1
     simp only[push_cast,Vp,hal,h2,h3,h4,h5,h12,h14,h19,h20,h21,gx,k4,hcp,↓WX,simprocAttr,WY]
    ·rw[if_neg c1]at e
     subst e
     simp only[push_cast,Vo,hal,h4,h14,gx,k4,hcp,c1,Tryz.f76,↓WX,simprocAttr,WY]
     exact⟨_,rfl,GL.nil⟩
   ·rw[if_neg (λh=>k4 h.1)]at hfa
    subst hfa
    simp only[push_cast,hal,h2,h3,h4,h5,h12,h14,h16,h19,h20,h21,gx,k4,↓WX,simprocAttr,WY]
  clear hfa
  rintro a V ⟨⟨rfl,c1⟩,hal,h2,h3,h4,h5,h12,h14,h16,h19,h20,h21⟩
  rw[if_pos c1]at e
  obtain⟨am,ae⟩:=am
  dsimp only at*
  by_cases c2:1099511627776<am
  ·rw[if_pos c2]at e
   subst e
   simp only[push_cast,Vn,hal,h16,c2,Tryz.f76,↓WX,simprocAttr,WY]
   exact⟨_,rfl,GL.nil⟩
  rw[if_neg c2]at e
  by_cases c3:am=0
  ·rw[if_pos c3]at e
   simp(disch:=omega)only[push_cast,Vn,Vp,hal,h2,h3,h4,h5,h12,h16,h19,h20,h21,c3,hlt,Yf,↓WX,simprocAttr,WY]
   exact⟨_,_,rfl,hg,hd,v0',hVl,by omega,e⟩
  ·rw[if_neg c3]at e
   simp(disch:=omega)only[push_cast,Vn,Vo,hal,h2,h3,h4,h5,h12,h14,h16,h19,h20,h21,c2,c3,gx,hlt,a1,Yf,↓WX,simprocAttr,WY]
   exact⟨_,_,rfl,a2,λn h=>by have:=(D.os.inj h).1;omega,g0',by omega,by rw[Ku,List.length_singleton];omega,e⟩
 clear hV
 rintro a T ⟨⟨d,cs,h12,hg,rfl⟩,hal⟩
 simp only[push_cast,hal,h12,Tryz.f76,↓WX,simprocAttr]
 exact⟨_,rfl,hg⟩
theorem Ptax_x (p:Plc) (hpa:p.aps.length<=1048576) (l:List Tx) (lx:Bool) (hl:l.length<=90000) (hlg:∀x∈l,TxG x) (hlf:∀x∈l,x.free.length<=1048576) (w:List Wnt) (wx:Bool) (hw:w.length<=1000) (htm:∀u∈w,u.tm) (s:ByteArray) (fare:Int) (hf:0<=fare) (hn:1048802<=n):
  ∃d,FLs 2 Jf d (taxF pctF p w s fare l []).1/\∀st S,Yi E (Yb E n) st S 76 [.agg p.enc,.sl 7 (l.map Tx.enc) lx,.sl 7 (w.map Wnt.seg) wx,.str s,.int .i64 fare]=some (.tup [d,.int .i64 (taxF pctF p w s fare l []).2],S):=by
 obtain⟨m,rfl⟩:∃m,n=m+1:=⟨n-1,by omega⟩
 obtain⟨_,T,ho,d,rfl,hg⟩:=Ptax_d (n:=m) p hpa l lx hl hlg hlf w wx hw htm s fare hf (by omega)
 obtain⟨d',hf,hd⟩:=hg.flsN (Ko _) 37
 exact⟨d',hd,λst S=>Yd rfl (by simp only[Yc,Yg,D.pure,Yt,Jq,Segs_pure,Ua]) ho (freeze_tup2 hf)⟩
end
end Go.Proofs.YtaklebjoenophaaGreat.Dm
