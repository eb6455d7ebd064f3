/-
  Whether fares combine: the program, exactly.
-/
import Derived.Test.YtaklebjoenophaaGreatPrO
set_option maxHeartbeats 64000000
set_option maxRecDepth 100000
set_option linter.unusedSimpArgs false
set_option linter.unusedVariables false
namespace Go.Proofs.YtaklebjoenophaaGreat.Dm
open Go Gw
theorem ofs_eq (u:Int):∀(l:List Shf) (q:Int),ShOk l->ofsP u q l=ofsF u q l
 | [],q,_=>rfl
 |x::xs,q,h=>by
  obtain⟨h1,h2⟩:=List.pairwise_cons.1 h
  have late:∀(ys:List Shf) (q:Int),(∀y∈ys,u<y.tm)->ofsF u q ys=q:=λys=>by
   induction ys with
   |nil=>intro q _;rfl
   |cons y ys ih=>
    intro q hy
    have:=hy y (Yx ..)
    rw[ofsF,if_neg (by omega)]
    exact ih q λz hz=>hy z (Yv _ hz)
  rw[ofsP,ofsF]
  by_cases c:u<x.tm
  ·rw[if_pos c,if_neg (by omega),late xs q λy hy=>by have:=h1 y hy;omega]
  ·rw[if_neg c,if_pos (by omega),ofs_eq u xs x.off h2]
theorem loc_eq {o:Option Apt} (h:∀a,o=some a->ShOk a.sh) (u:Int):locP o u=locF o u:=by
 unfold locP locF
 cases o with
 |none=>rfl
 |some a=>
  show IntKind.i64.wrap (u+ofsP u a.off a.sh)=IntKind.i64.wrap (u+ofsF u a.off a.sh)
  rw[ofs_eq u _ _ (h a rfl)]
def preD:D->Nat->D
 | .sl sz es x,i=>.sl sz (es.take i) (x && decide (i=es.length))
 | .os k o _ x,i=>.os k o i x
 |d,_=>d
section
variable {n : Nat}
theorem PMixed_d {S:List Ob} (t:Trf) {d:D} {l:List Prt} (h:LR 4 Prt.enc S d l) (hl:l.length<=900) (hr:t.rules.length<=1048576) (hcb:∀r∈t.rules,r.comb.length<=1048576) (hn:1048900<=n):
  WO (dcall E (n+1) 72 [.agg t.enc,d] S) λr T=>r=.int .i64 (mixedF t l)/\∃J,T=S++J:=by
 have hy:=lr_len Tryz.underlying37 h
 simp only[push_cast]at hy
 obtain⟨R0,hR0⟩:∃R0,R0=Ob.row 4 [t.enc]:=⟨_,rfl⟩
 have ck:=Ppriced_x (n:=n) t (h.ext (extS_app (J:=[R0]))) (by omega) (by omega)
 unfold mixedF
 have hk:l.all (knoF t)=true->∀x∈l,knoF t x=true:=λh=>List.all_eq_true.1 h
 generalize l.all (knoF t)=kb at*
 obtain⟨q,hq⟩:∃q,q=mxF (λx y=>mix2F (rulF t x) (rulF t y)) [] l:=⟨_,rfl⟩
 rw[<-hq]
 have crl:=λx hx=>PruleOf_x (n:=n) t x hx hr (by omega)
 have cmx:=λx y=>PMix_x (n:=n) (rulF t x) (rulF t y) (λr hr=>hcb r (List.mem_of_find?_eq_some hr)) (λr hr=>hcb r (List.mem_of_find?_eq_some hr)) (by omega)
 simp only[Trf.enc]at ck crl hR0 ⊢
 refine wo_dcall Tryz.func72 rfl (by decide) rfl 38 rfl (λa hal ha=>?_)
 have h0:a[0]?=some (.agg [.sl 9 (t.fares.map Far.enc) t.fx,.sl 15 (t.rules.map Rul.enc) t.rx,.sl 3 (t.rous.map Rou.enc) t.ox,.sl 7 (t.taxes.map Tx.enc) t.tx]):=ha 0 (by simp)
 have h1:a[1]?=some (d):=ha 1 (by simp)
 clear ha
 refine wc_scut (λa V=>V=S++[R0]/\a.length=38/\a[1]?=some (d)/\a[2]?=some (.loc S.length 0 0)) ?_ ?_
 ·simp(maxSteps:=1000000)(disch:=omega)only[push_cast,hal,h0,h1,hR0,↓WX,simprocAttr]
 clear hal h0 h1 a
 rintro a V ⟨rfl,hal,h1,h2⟩
 have gR:(S++[R0])[S.length]?=some (Ob.row 4 [[.sl 9 (t.fares.map Far.enc) t.fx,.sl 15 (t.rules.map Rul.enc) t.rx,.sl 3 (t.rous.map Rou.enc) t.ox,.sl 7 (t.taxes.map Tx.enc) t.tx]]):=by rw[hR0];exact get_end
 cases kb
 ·simp(maxSteps:=1000000)(disch:=omega)only[push_cast,hal,h1,h2,gR,ck,Bool.not_false,Yr,Tryz.f72,↓WX,simprocAttr]
  exact⟨_,rfl⟩
 simp only[if_true]
 have hk:=hk rfl
 refine wc_scut (λa V=>V=S++[R0]/\a.length=38/\a[1]?=some (d)/\a[2]?=some (.loc S.length 0 0)) ?_ ?_
 ·simp(maxSteps:=1000000)(disch:=omega)only[push_cast,hal,h1,h2,gR,ck,Bool.not_true,↓WX,simprocAttr]
 clear hal h1 h2 a
 rintro a V ⟨rfl,hal,h1,h2⟩
 refine wc_rcut (λa T=>((∃J,T=S++J)/\q=true)/\a.length=38) ?_ ?_
 ·simp(maxSteps:=1000000)(disch:=omega)only[push_cast,hal,h1,hy,↓WX,simprocAttr]
  refine wl_loop (λi a T=>((∃J,T=S++R0::J)/\q=mxF (λx y=>mix2F (rulF t x) (rulF t y)) (l.take i) (l.drop i))/\a.length=38/\a[1]?=some (d)/\a[2]?=some (.loc S.length 0 0)/\a[13]?=some (d)/\a[14]?=some (.int .i64 l.length)/\a[15]?=some (.int .i64 i)) l.length ?_ (by omega) ?_
  ·simp(maxSteps:=1000000)(disch:=omega)only[push_cast,hal,h1,h2,Int.natCast_zero,simprocAttr]
   exact⟨⟨[],rfl⟩,hq⟩
  clear hal h1 h2 a
  clear hq ck gR
  rintro i a T hi ⟨⟨⟨J,rfl⟩,e0⟩,hal,h1,h2,h13,h14,h15⟩
  rcases Yf hi with hlt |rfl
  case inr=>
   rw[Zt,mxF]at e0
   simp(maxSteps:=1000000)(disch:=omega)only[push_cast,hal,h14,h15,Int.lt_irrefl,false_and,or_false,true_and,↓WX,simprocAttr]
   exact⟨⟨_,rfl⟩,e0⟩
  have hltc:(i:Int)<l.length:=by omega
  obtain⟨x,hx⟩:∃x,l[i]?=some x:=⟨l[i],by simp⟩
  have hti:(l.take (i+1))=l.take i++[x]:=by rw[List.take_add_one,hx];rfl
  have crx:=crl x (hk x (Yg hx))
  obtain⟨x1,x2,x3,x4,x5,x6,x7,x8,x9,x10,x11,x12,x13,x14,hxr,-⟩:=rul_lit (rulF t x)
  have cmx:=cmx x
  rw[hxr]at crx cmx
  simp only[Prt.enc]at crx
  rw[drop_at hx]at e0
  refine wc_scut (λa V=>V=S++R0::J/\a.length=38/\a[1]?=some (d)/\a[2]?=some (.loc S.length 0 0)/\a[13]?=some (d)/\a[14]?=some (.int .i64 l.length)/\a[15]?=some (.int .i64 i)/\a[16]?=some (.bool true)) ?_ ?_
  ·simp(maxSteps:=1000000)(disch:=omega)only[push_cast,hal,h1,h2,h13,h14,h15,hltc,↓WX,simprocAttr]
  clear hal h1 h2 h13 h14 h15 a
  rintro a V ⟨rfl,hal,h1,h2,h13,h14,h15,h16⟩
  refine wc_scut (λa V=>V=S++R0::J/\a.length=38/\a[1]?=some (d)/\a[2]?=some (.loc S.length 0 0)/\a[13]?=some (d)/\a[14]?=some (.int .i64 l.length)/\a[15]?=some (.int .i64 i)) ?_ ?_
  ·simp(maxSteps:=1000000)(disch:=omega)only[push_cast,hal,h1,h2,h13,h14,h15,h16,↓WX]
  clear hal h1 h2 h13 h14 h15 h16 a
  rintro a V ⟨rfl,hal,h1,h2,h13,h14,h15⟩
  rw[wc_seq,wc_block]
  refine wc_scut (λa W=>(∃kx J,a[6]?=some (.loc kx 0 0)/\W[kx]?=some (.row 4 [[.int .i64 x.fr,.int .i64 x.to,.int .i64 x.fa,.int .i64 x.am]])/\W=S++R0::J)/\a.length=38/\a[1]?=some (d)/\a[2]?=some (.loc S.length 0 0)/\a[5]?=some (.int .i64 i)/\a[13]?=some (d)/\a[14]?=some (.int .i64 l.length)/\a[15]?=some (.int .i64 i)) ?_ ?_
  ·have hap:=apl (enc:=Prt.enc) hx
   rcases h with ⟨-,rfl⟩ | ⟨lx,rfl,hk0⟩ | ⟨kk,es,rfl,hk0⟩
   ·cases hx
   case' inr.inr=>have hk0:=hk0 (R0::J)
   all_goals
    simp(maxSteps:=1000000)(disch:=omega)only[push_cast,hal,h1,h2,h13,h14,h15,hap,hk0,hlt,hx,set_end,get_end,Prt.enc,↓WX,simprocAttr]
    exact⟨_,_,rfl,get_end,Zp ..⟩
  clear hal h1 h2 h13 h14 h15 a
  clear J
  rintro a W ⟨⟨kx,J,h6,gx,rfl⟩,hal,h1,h2,h5,h13,h14,h15⟩
  obtain⟨e,he⟩:∃e,e=preD d i:=⟨_,rfl⟩
  have hil:i<=l.length:=by omega
  have hil':(i<=l.length)=True:=eq_true hil
  have hap:=apl (enc:=Prt.enc) hx
  rcases h with ⟨-,rfl⟩ | ⟨lx,rfl,hk0⟩ | ⟨kk,es,rfl,hk0⟩
  ·cases hx
  ·skip
   simp only[preD]at he
   have hle:min i l.length=i:=by omega
   simp(maxSteps:=1000000)(disch:=omega)only[push_cast,hal,h1,h5,hil',Xb,Nat.sub_zero,List.drop_zero,Zn,hle,↓WX,simprocAttr]
   refine wl_loop (λk a T=>((∃J,T=S++R0::J/\T[kx]?=some (.row 4 [[.int .i64 x.fr,.int .i64 x.to,.int .i64 x.fa,.int .i64 x.am]]))/\∀y∈l.take k,mix2F (rulF t x) (rulF t y)=true)/\a.length=38/\a[1]?=some (.sl 4 (l.map Prt.enc) lx)/\a[2]?=some (.loc S.length 0 0)/\a[6]?=some (.loc kx 0 0)/\a[13]?=some (.sl 4 (l.map Prt.enc) lx)/\a[14]?=some (.int .i64 l.length)/\a[15]?=some (.int .i64 i)/\a[22]?=some (e)/\a[23]?=some (.int .i64 i)/\a[24]?=some (.int .i64 k)) i ?_ (by omega) ?_
   ·simp(maxSteps:=1000000)(disch:=omega)only[push_cast,hal,h1,h2,h6,h13,h14,h15,Int.natCast_zero,he,simprocAttr]
    exact⟨⟨_,rfl,gx⟩,λy hy=>(by cases hy)⟩
   clear hal h1 h2 h5 h6 h13 h14 h15 a
   clear gx J
   rintro k a T hik ⟨⟨⟨J,rfl,gx⟩,e1⟩,hal,h1,h2,h6,h13,h14,h15,h22,h23,h24⟩
   rcases Yf hik with hkt |rfl
   case inr=>
    rw[mxF_all e1,<-hti]at e0
    simp(maxSteps:=1000000)(disch:=omega)only[push_cast,hal,h1,h2,h13,h14,h15,h23,h24,Int.lt_irrefl,hlt,wrap_ok,Int.natCast_add,Int.natCast_one,↓WX,simprocAttr]
    exact⟨⟨_,rfl⟩,e0⟩
   have hktc:(k:Int)<i:=by omega
   have hkl:k<l.length:=by omega
   obtain⟨y,hyk⟩:∃y,l[k]?=some y:=⟨l[k],by simp⟩
   have hytk:y∈l.take i:=Yg (i:=k) (by rw[List.getElem?_take,if_pos hkt];exact hyk)
   have hyt:(l.take (k+1))=l.take k++[y]:=by rw[List.take_add_one,hyk];rfl
   have htk:(l.take i)[k]?=some y:=by rw[List.getElem?_take,if_pos hkt];exact hyk
   have cry:=crl y (hk y (Yg hyk))
   obtain⟨y1,y2,y3,y4,y5,y6,y7,y8,y9,y10,y11,y12,y13,y14,hyr,-⟩:=rul_lit (rulF t y)
   have cmy:=cmx y
   rw[hyr]at cry cmy
   simp only[Prt.enc]at cry
   have hkm:k<min i l.length:=by omega
   refine wc_scut (λa V=>V=S++R0::J/\a.length=38/\a[1]?=some (.sl 4 (l.map Prt.enc) lx)/\a[2]?=some (.loc S.length 0 0)/\a[6]?=some (.loc kx 0 0)/\a[13]?=some (.sl 4 (l.map Prt.enc) lx)/\a[14]?=some (.int .i64 l.length)/\a[15]?=some (.int .i64 i)/\a[22]?=some (e)/\a[23]?=some (.int .i64 i)/\a[24]?=some (.int .i64 k)/\a[25]?=some (.bool true)) ?_ ?_
   ·simp(maxSteps:=1000000)(disch:=omega)only[push_cast,hal,h1,h2,h6,h13,h14,h15,h22,h23,h24,hktc,↓WX,simprocAttr]
   clear hal h1 h2 h6 h13 h14 h15 h22 h23 h24 a
   rintro a V ⟨rfl,hal,h1,h2,h6,h13,h14,h15,h22,h23,h24,h25⟩
   refine wc_scut (λa V=>V=S++R0::J/\a.length=38/\a[1]?=some (.sl 4 (l.map Prt.enc) lx)/\a[2]?=some (.loc S.length 0 0)/\a[6]?=some (.loc kx 0 0)/\a[13]?=some (.sl 4 (l.map Prt.enc) lx)/\a[14]?=some (.int .i64 l.length)/\a[15]?=some (.int .i64 i)/\a[22]?=some (e)/\a[23]?=some (.int .i64 i)/\a[24]?=some (.int .i64 k)) ?_ ?_
   ·simp(maxSteps:=1000000)(disch:=omega)only[push_cast,hal,h1,h2,h6,h13,h14,h15,h22,h23,h24,h25,↓WX]
   clear hal h1 h2 h6 h13 h14 h15 h22 h23 h24 h25 a
   rintro a V ⟨rfl,hal,h1,h2,h6,h13,h14,h15,h22,h23,h24⟩
   rw[wc_seq,wc_block]
   refine wc_scut (λa W=>(∃ky J,a[8]?=some (.loc ky 0 0)/\W[ky]?=some (.row 4 [[.int .i64 y.fr,.int .i64 y.to,.int .i64 y.fa,.int .i64 y.am]])/\W[kx]?=some (.row 4 [[.int .i64 x.fr,.int .i64 x.to,.int .i64 x.fa,.int .i64 x.am]])/\W=S++R0::J)/\a.length=38/\a[1]?=some (.sl 4 (l.map Prt.enc) lx)/\a[2]?=some (.loc S.length 0 0)/\a[6]?=some (.loc kx 0 0)/\a[13]?=some (.sl 4 (l.map Prt.enc) lx)/\a[14]?=some (.int .i64 l.length)/\a[15]?=some (.int .i64 i)/\a[22]?=some (e)/\a[23]?=some (.int .i64 i)/\a[24]?=some (.int .i64 k)) ?_ ?_
   ·rw[he]at h22
    simp(maxSteps:=1000000)(disch:=omega)only[push_cast,hal,h1,h2,h6,h13,h14,h15,h22,h23,h24,htk,set_end,get_end,<-List.map_take,Prt.enc,he,↓WX,simprocAttr]
    exact⟨_,_,rfl,get_end,get_old gx,Zp ..⟩
   clear hal h1 h2 h6 h13 h14 h15 h22 h23 h24 a
   clear gx J
   rintro a W ⟨⟨ky,J,h8,gy,gx,rfl⟩,hal,h1,h2,h6,h13,h14,h15,h22,h23,h24⟩
   have gR:(S++R0::J)[S.length]?=some (Ob.row 4 [[.sl 9 (t.fares.map Far.enc) t.fx,.sl 15 (t.rules.map Rul.enc) t.rx,.sl 3 (t.rous.map Rou.enc) t.ox,.sl 7 (t.taxes.map Tx.enc) t.tx]]):=at_app.trans (congrArg some hR0)
   have hSJ:∃K,S++R0::J=S++K:=⟨_,rfl⟩
   have hSR:∃K,S++R0::J=S++R0::K:=⟨_,rfl⟩
   generalize S++R0::J=W at*
   cases hm:mix2F (rulF t x) (rulF t y)
   ·rw[mxF_no hytk hm]at e0
    subst e0
    rw[hm]at cmy
    simp(maxSteps:=1000000)(disch:=omega)only[push_cast,hal,h2,h6,h8,gR,gx,gy,crx,cry,cmy,Bool.not_false,Yr,false_and,false_or,true_and,Tryz.f72,↓WX,simprocAttr]
    exact hSJ
   ·rw[hm]at cmy
    simp(maxSteps:=1000000)(disch:=omega)only[push_cast,hal,h1,h2,h6,h8,h13,h14,h15,h22,h23,h24,gR,gx,gy,crx,cry,cmy,hkt,Bool.not_true,wrap_ok,Int.natCast_add,Int.natCast_one,↓WX,simprocAttr]
    refine⟨hSR,λz hz=>?_⟩
    rw[hyt]at hz
    rcases List.mem_append.1 hz with hz |hz
    ·exact e1 z hz
    ·rw[List.mem_singleton.1 hz];exact hm
  ·have hk1:=hk0 (R0::J)
   have hk2:∀J,(S++R0::J)[kk]?=some (Ob.row 4 (l.map Prt.enc++es)):=λJ=>hk0 (R0::J)
   simp only[preD]at he
   have hle:min i l.length=i:=by omega
   simp(maxSteps:=1000000)(disch:=omega)only[push_cast,hal,h1,h5,hk1,hil',Xb,Nat.sub_zero,Zv,and_false,↓WX,simprocAttr]
   refine wl_loop (λk a T=>((∃J,T=S++R0::J/\T[kx]?=some (.row 4 [[.int .i64 x.fr,.int .i64 x.to,.int .i64 x.fa,.int .i64 x.am]]))/\∀y∈l.take k,mix2F (rulF t x) (rulF t y)=true)/\a.length=38/\a[1]?=some (.os kk 0 l.length false)/\a[2]?=some (.loc S.length 0 0)/\a[6]?=some (.loc kx 0 0)/\a[13]?=some (.os kk 0 l.length false)/\a[14]?=some (.int .i64 l.length)/\a[15]?=some (.int .i64 i)/\a[22]?=some (e)/\a[23]?=some (.int .i64 i)/\a[24]?=some (.int .i64 k)) i ?_ (by omega) ?_
   ·simp(maxSteps:=1000000)(disch:=omega)only[push_cast,hal,h1,h2,h6,h13,h14,h15,Int.natCast_zero,he,simprocAttr]
    exact⟨⟨_,rfl,gx⟩,λy hy=>(by cases hy)⟩
   clear hal h1 h2 h5 h6 h13 h14 h15 a
   clear gx hk1 J
   rintro k a T hik ⟨⟨⟨J,rfl,gx⟩,e1⟩,hal,h1,h2,h6,h13,h14,h15,h22,h23,h24⟩
   rcases Yf hik with hkt |rfl
   case inr=>
    rw[mxF_all e1,<-hti]at e0
    simp(maxSteps:=1000000)(disch:=omega)only[push_cast,hal,h1,h2,h13,h14,h15,h23,h24,Int.lt_irrefl,hlt,wrap_ok,Int.natCast_add,Int.natCast_one,↓WX,simprocAttr]
    exact⟨⟨_,rfl⟩,e0⟩
   have hktc:(k:Int)<i:=by omega
   have hkl:k<l.length:=by omega
   obtain⟨y,hyk⟩:∃y,l[k]?=some y:=⟨l[k],by simp⟩
   have hytk:y∈l.take i:=Yg (i:=k) (by rw[List.getElem?_take,if_pos hkt];exact hyk)
   have hyt:(l.take (k+1))=l.take k++[y]:=by rw[List.take_add_one,hyk];rfl
   have htk:(l.take i)[k]?=some y:=by rw[List.getElem?_take,if_pos hkt];exact hyk
   have cry:=crl y (hk y (Yg hyk))
   obtain⟨y1,y2,y3,y4,y5,y6,y7,y8,y9,y10,y11,y12,y13,y14,hyr,-⟩:=rul_lit (rulF t y)
   have cmy:=cmx y
   rw[hyr]at cry cmy
   simp only[Prt.enc]at cry
   have hkm:k<min i l.length:=by omega
   refine wc_scut (λa V=>V=S++R0::J/\a.length=38/\a[1]?=some (.os kk 0 l.length false)/\a[2]?=some (.loc S.length 0 0)/\a[6]?=some (.loc kx 0 0)/\a[13]?=some (.os kk 0 l.length false)/\a[14]?=some (.int .i64 l.length)/\a[15]?=some (.int .i64 i)/\a[22]?=some (e)/\a[23]?=some (.int .i64 i)/\a[24]?=some (.int .i64 k)/\a[25]?=some (.bool true)) ?_ ?_
   ·simp(maxSteps:=1000000)(disch:=omega)only[push_cast,hal,h1,h2,h6,h13,h14,h15,h22,h23,h24,hktc,↓WX,simprocAttr]
   clear hal h1 h2 h6 h13 h14 h15 h22 h23 h24 a
   rintro a V ⟨rfl,hal,h1,h2,h6,h13,h14,h15,h22,h23,h24,h25⟩
   refine wc_scut (λa V=>V=S++R0::J/\a.length=38/\a[1]?=some (.os kk 0 l.length false)/\a[2]?=some (.loc S.length 0 0)/\a[6]?=some (.loc kx 0 0)/\a[13]?=some (.os kk 0 l.length false)/\a[14]?=some (.int .i64 l.length)/\a[15]?=some (.int .i64 i)/\a[22]?=some (e)/\a[23]?=some (.int .i64 i)/\a[24]?=some (.int .i64 k)) ?_ ?_
   ·simp(maxSteps:=1000000)(disch:=omega)only[push_cast,hal,h1,h2,h6,h13,h14,h15,h22,h23,h24,h25,↓WX]
   clear hal h1 h2 h6 h13 h14 h15 h22 h23 h24 h25 a
   rintro a V ⟨rfl,hal,h1,h2,h6,h13,h14,h15,h22,h23,h24⟩
   rw[wc_seq,wc_block]
   refine wc_scut (λa W=>(∃ky J,a[8]?=some (.loc ky 0 0)/\W[ky]?=some (.row 4 [[.int .i64 y.fr,.int .i64 y.to,.int .i64 y.fa,.int .i64 y.am]])/\W[kx]?=some (.row 4 [[.int .i64 x.fr,.int .i64 x.to,.int .i64 x.fa,.int .i64 x.am]])/\W=S++R0::J)/\a.length=38/\a[1]?=some (.os kk 0 l.length false)/\a[2]?=some (.loc S.length 0 0)/\a[6]?=some (.loc kx 0 0)/\a[13]?=some (.os kk 0 l.length false)/\a[14]?=some (.int .i64 l.length)/\a[15]?=some (.int .i64 i)/\a[22]?=some (e)/\a[23]?=some (.int .i64 i)/\a[24]?=some (.int .i64 k)) ?_ ?_
   ·have apy:=apl (enc:=Prt.enc) hyk
    rw[he]at h22
    simp(maxSteps:=1000000)(disch:=omega)only[push_cast,hal,h1,h2,h6,h13,h14,h15,h22,h23,h24,hk2,apy,hkt,set_end,get_end,Prt.enc,he,↓WX,simprocAttr]
    exact⟨_,_,rfl,get_end,get_old gx,Zp ..⟩
   clear hal h1 h2 h6 h13 h14 h15 h22 h23 h24 a
   clear gx J
   rintro a W ⟨⟨ky,J,h8,gy,gx,rfl⟩,hal,h1,h2,h6,h13,h14,h15,h22,h23,h24⟩
   have gR:(S++R0::J)[S.length]?=some (Ob.row 4 [[.sl 9 (t.fares.map Far.enc) t.fx,.sl 15 (t.rules.map Rul.enc) t.rx,.sl 3 (t.rous.map Rou.enc) t.ox,.sl 7 (t.taxes.map Tx.enc) t.tx]]):=at_app.trans (congrArg some hR0)
   have hSJ:∃K,S++R0::J=S++K:=⟨_,rfl⟩
   have hSR:∃K,S++R0::J=S++R0::K:=⟨_,rfl⟩
   generalize S++R0::J=W at*
   cases hm:mix2F (rulF t x) (rulF t y)
   ·rw[mxF_no hytk hm]at e0
    subst e0
    rw[hm]at cmy
    simp(maxSteps:=1000000)(disch:=omega)only[push_cast,hal,h2,h6,h8,gR,gx,gy,crx,cry,cmy,Bool.not_false,Yr,false_and,false_or,true_and,Tryz.f72,↓WX,simprocAttr]
    exact hSJ
   ·rw[hm]at cmy
    simp(maxSteps:=1000000)(disch:=omega)only[push_cast,hal,h1,h2,h6,h8,h13,h14,h15,h22,h23,h24,gR,gx,gy,crx,cry,cmy,hkt,Bool.not_true,wrap_ok,Int.natCast_add,Int.natCast_one,↓WX,simprocAttr]
    refine⟨hSR,λz hz=>?_⟩
    rw[hyt]at hz
    rcases List.mem_append.1 hz with hz |hz
    ·exact e1 z hz
    ·rw[List.mem_singleton.1 hz];exact hm
 clear hal h1 h2 a
 rintro a T ⟨⟨hJ,rfl⟩,hal⟩
 simp(maxSteps:=1000000)(disch:=omega)only[push_cast,hal,Tryz.f72,↓WX,simprocAttr]
 exact hJ
end
end Go.Proofs.YtaklebjoenophaaGreat.Dm
