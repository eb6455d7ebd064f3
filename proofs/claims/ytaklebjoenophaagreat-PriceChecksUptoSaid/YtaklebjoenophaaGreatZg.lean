/-
  What plain data of a type are: words for structs, and for slices of them.
  What is known of a trip: the reference, exactly.
  Why a fare does not apply: the reference answers.
  Round trips of a journey: the reference, exactly.
  The search for the cheapest price: its plain law. What the search leaves out cannot be the best.
-/
import Derived.Test.YtaklebjoenophaaGreatEval
import Derived.Test.YtaklebjoenophaaGreatTv
import Derived.Test.YtaklebjoenophaaGreatDmK
import Derived.Test.YtaklebjoenophaaGreatPoS
import Derived.Test.YtaklebjoenophaaGreatPoH
set_option maxHeartbeats 64000000
set_option maxRecDepth 100000
set_option linter.unusedSimpArgs false
set_option linter.unusedVariables false
namespace Go.Proofs.YtaklebjoenophaaGreat
open Go Dm Go.RowKit
theorem int_bd {n:Int} (h:(Lit.int .i64 n).wf=true): -9223372036854775808<=n/\n<=9223372036854775807:=by
 unfold Lit.wf at h
 rw[Kv,Up,Up]at h
 exact h
def CellR (e e':List D):Prop:=e'.length=e.length/\∀(j:Nat) (c c':D),e[j]?=some c->e'[j]?=some c'->c'.one=true/\∀W C u,VR W C c u->VR W C c' u
theorem nils_sl {W:World} {C:Cx} {v:Value} {sz:Nat} (h:VR W C .nils v):VR W C (.sl sz [] true) v:=by
 cases h
 exact .sl0 (λ_=>rfl)
theorem VR.sl_rel {W:World} {C:Cx} {sz:Nat} {es es':List (List D)} {x:Bool} {v:Value} (h:VR W C (.sl sz es x) v) (hl:es'.length=es.length) (hr:∀(j:Nat) (e e':List D),es[j]?=some e->es'[j]?=some e'->CellR e e'):VR W C (.sl sz es' x) v:=by
 have at':∀ {j:Nat} {e':List D},es'[j]?=some e'->∃e,es[j]?=some e:=λ{j e'} h=>by
  have hj:=(Kr.1 h).1
  exact⟨es[j]'(by omega),Uh (by omega)⟩
 have cell:∀ {e e':List D} {j:Nat} {c':D},CellR e e'->e'[j]?=some c'->∃c,e[j]?=some c:=λ{e e' j c'} h k=>by
  have hj:=(Kr.1 k).1
  exact⟨e[j]'(by rw[<-h.1];exact hj),Uh (by rw[<-h.1];exact hj)⟩
 cases h with
 |sl vs hp hg hcap hx hs hc ho hv=>
  rw[<-hl]at hp hcap hx hc ⊢
  refine .sl vs hp hg hcap hx (λi e' he'=>?_) hc (λi j e' c' he' hc'=>?_) (λi j e' c' he' hc'=>?_)
  ·obtain⟨e,he⟩:=at' he'
   rw[(hr i e e' he he').1];exact hs i e he
  ·obtain⟨e,he⟩:=at' he'
   obtain⟨c,hc⟩:=cell (hr i e e' he he') hc'
   exact ((hr i e e' he he').2 j c c' hc hc').1
  ·obtain⟨e,he⟩:=at' he'
   obtain⟨c,hc⟩:=cell (hr i e e' he he') hc'
   exact ((hr i e e' he he').2 j c c' hc hc').2 _ _ _ (hv i j e c he hc)
 |sl0 hx=>
  have:es'=[]:=Ug (by simpa using hl)
  subst this
  exact .sl0 hx
theorem CellR.refl {c:List D} (h:∀d∈c,d.one=true):CellR c c:=⟨rfl,λj x y hx hy=>by
 rw[hx]at hy
 cases hy
 exact⟨h _ (Kx hx),λ_ _ _ h=>h⟩⟩
theorem agg_rel {W:World} {C:Cx} {c c':List D} {v:Value} (hr:CellR c c') (h:VR W C (.agg c) v):VR W C (.agg c') v:=by
 obtain⟨vs,rfl,hv⟩:=h.of_agg
 have:VRs W C c' vs.toList:=⟨hr.1.trans hv.1,λj d u hd hu=>by
  have hj:=(Kr.1 hd).1
  obtain⟨c0,hc0⟩:∃c0,c[j]?=some c0:=⟨c[j]'(by rw[<-hr.1];exact hj),Uh (by rw[<-hr.1];exact hj)⟩
  exact (hr.2 j c0 d hc0 hd).2 _ _ _ (hv.2 j c0 u hc0 hu)⟩
 have:=VR.agg_of this
 simpa using this
end Go.Proofs.YtaklebjoenophaaGreat
namespace Go.Proofs.YtaklebjoenophaaGreat.Dm
open Go Gw
theorem GL.one {α:Type} {sz:Nat} {enc:α->List D} {S:List Ob} {d:D} {l:List α} (h:GL sz enc S d l):d.one=true:=by
 rcases h with ⟨rfl,-⟩ | ⟨k,rfl,-⟩ <;> rfl
theorem GL.sets {α:Type} {sz z k:Nat} {enc:α->List D} {S:List Ob} {d:D} {l:List α} {r:List (List D)} (h:GL sz enc S d l) (hk:S[k]?=some (.row z r)) (hz:z≠sz) (o:Ob):GL sz enc (S.set k o) d l:=by
 refine h.keep λj n hj o' ho=>?_
 rcases h with ⟨h,-⟩ | ⟨i,h,hi⟩
 ·rw[h]at hj
  cases hj
 ·rw[h]at hj
  obtain⟨rfl,-⟩:=D.os.inj hj
  have hne:k≠i:=λe=>by
   subst e
   rw[hk]at hi
   injection hi with hi
   injection hi with hi _
   exact hz hi
  rw[Kt hne]
  exact ho
section
variable {n : Nat}
theorem Trip25_d (p:Plc) (hpa:p.aps.length<=1048576) (hsh:∀a∈p.aps,a.sh.length<=1048576) (l:List Wnt) (lx:Bool) (hl:l.length<=900) (hl0:l≠[]) (s:ByteArray) (sale:Int) (hn:1048600<=n):
  WO (Yb E (n+1) 83 [.agg p.enc,.sl 8 (l.map Wnt.enc) lx,.str s,.int .i64 sale] []) λr T=>∃d6 d7 dv,r=.agg ((tripF p l s sale).enc d6 d7 dv)/\GL 1 Cnd.encT T d6 (tripF p l s sale).cars/\GL 1 encZ T d7 (tripF p l s sale).nums/\FLs 1 Cnd.encT dv (tripF p l s sale).vias:=by
 obtain⟨cs,cx,hcf,hcl,hcs⟩:=Cities25_c (n:=n) p hpa l lx (by omega) hl0 (by omega)
 obtain⟨w,hw⟩:∃w,l[0]?=some w:=⟨l[0]'(List.length_pos_iff.2 hl0),by simp⟩
 have hwd:∀d,l.headD d=w:=λd=>by
  cases l with
  |nil=>exact (hl0 rfl).elim
  |cons a t=>exact Kz hw
 have h0l:0<l.length:=List.length_pos_iff.2 hl0
 have h0lc:(0:Int)<l.length:=by omega
 have hfd:=λst S=>PrFind_c (n:=n) (p:=p) (s:=w.fr) (by omega) (by omega) st S
 have hom:∀a,(p.aps.find? λa=>a.code.toList == w.fr.toList)=some a->a∈p.aps:=λa h=>List.mem_of_find?_eq_some h
 obtain⟨o,ho⟩:∃o,o=p.aps.find? λa=>a.code.toList == w.fr.toList:=⟨_,rfl⟩
 have htf:tripF p l s sale=⟨s,sale,dayF (locF o w.dep),mntF (locF o w.dep),(stpN l:Int),((l.length-1-stpN l:Nat):Int),l.map Wnt.car,l.map Wnt.num,(cs.drop 1).take (cs.length-1-1)⟩:=by
  unfold tripF
  simp only[hwd,<-ho,hcf]
 rw[<-ho]at hfd hom
 clear ho hcf
 have hzl:(zshs o).length<=1048576:=by
  cases o with
  |none=>exact Vt _
  |some a=>exact hsh a (hom a rfl)
 have hlo:=local05_x (n:=n) (by omega) (zofs o) (zsh_fls o) hzl w.dep
 have hsp:=split03_x (n:=n) (by omega) (locF o w.dep)
 rw[show IntKind.i64.wrap (w.dep+ofsF w.dep (zofs o) (zshs o))=locF o w.dep from rfl]at hlo
 rw[htf]
 generalize locF o w.dep=lo at*
 generalize dayF lo=dy at*
 generalize mntF lo=mt at*
 clear htf
 have hlz:decide ((l.length:Int)=0)=false:=Ud (by omega)
 simp only[Plc.enc]at hfd hcs ⊢
 obtain⟨P0,hP0⟩:∃P0:List D,P0=[.sl 5 (p.aps.map Apt.enc) p.apsx,.sl 3 (p.dts.map Dst.enc) p.dtsx]:=⟨_,rfl⟩
 refine Ye Tryz.func83 rfl (by decide) rfl 108 rfl (λa hal ha=>?_)
 obtain⟨h0,h1,h2,h3⟩:=aQ4 ha
 clear ha
 obtain⟨Z0,hZ0⟩:∃Z0:Ob,Z0=Ob.row 9 [[.str (ByteArray.mk #[]),.int .i64 0,.int .i64 0,.int .i64 0,.int .i64 0,.int .i64 0,.nils,.nils,.nils]]:=⟨_,rfl⟩
 refine Ya (λa V=>V=[Ob.row 2 [P0],Z0]/\gQ a 108 (a[8]?=some (.loc 1 0 0)) [(1,.sl 8 (l.map Wnt.enc) lx),(2,.str s),(3,.int .i64 sale),(4,.loc 0 0 0)]) ?_ ?_
 ·simp only[push_cast,hal,h0,h1,h2,h3,↓WX,simprocAttr]
  rw[hP0,hZ0]
 rintro a V ⟨rfl,hal,h1,h2,h3,h4,h8⟩
 refine Ya (λa V=>V=[Ob.row 2 [P0],Z0,Ob.row 9 [[.str s,.int .i64 sale,.int .i64 0,.int .i64 0,.int .i64 0,.int .i64 0,.nils,.nils,.nils]]]/\gQ a 108 (a[9]?=some (.loc 2 0 0)) [(1,.sl 8 (l.map Wnt.enc) lx),(4,.loc 0 0 0),(8,.loc 1 0 0)]) ?_ ?_
 ·simp only[push_cast,hal,h1,h2,h3,h4,h8,↓WX,simprocAttr]
 rintro a V ⟨rfl,hal,h1,h4,h8,h9⟩
 refine Ya (λa V=>V=[Ob.row 2 [P0],Z0,Ob.row 9 [[.str s,.int .i64 sale,.int .i64 0,.int .i64 0,.int .i64 0,.int .i64 0,.nils,.nils,.nils]]]/\gQ a 108 (a[9]?=some (.loc 2 0 0)) [(1,.sl 8 (l.map Wnt.enc) lx),(4,.loc 0 0 0),(8,.loc 1 0 0)]) ?_ ?_
 ·simp only[push_cast,hal,h1,h4,h8,h9,hlz,↓WX,simprocAttr]
 rintro a V ⟨rfl,hal,h1,h4,h8,h9⟩
 refine Ya (λa V=>(∃ac,V=[Ob.row 2 [P0],Z0,Ob.row 9 [[.str s,.int .i64 sale,.int .i64 0,.int .i64 0,.int .i64 0,.int .i64 0,.nils,.nils,.nils]],Ob.row 5 [ac]]/\∃a b c,ac=[a,b,c,.int .i64 (zofs o),zshD o])/\gQ a 108 (a[10]?=some (.loc 3 0 0)) [(1,.sl 8 (l.map Wnt.enc) lx),(4,.loc 0 0 0),(8,.loc 1 0 0),(9,.loc 2 0 0)]) ?_ ?_
 ·subst hP0
  cases o with
  |none=>
   simp only[Xy,zeroApt]at hfd
   simp only[push_cast,hal,h1,h4,h8,h9,hw,hfd,Wnt.enc,↓WX,simprocAttr]
   exact⟨_,rfl,_,_,_,rfl⟩
  |some a=>
   simp only[Xy,Apt.enc]at hfd
   simp only[push_cast,hal,h1,h4,h8,h9,hw,hfd,Wnt.enc,↓WX,simprocAttr]
   exact⟨_,rfl,_,_,_,rfl⟩
 rintro a V ⟨⟨_,rfl,a0,b0,c0,rfl⟩,hal,h1,h4,h8,h9,h10⟩
 clear hfd hom
 refine Ya (λa V=>V=[Ob.row 2 [P0],Z0,Ob.row 9 [[.str s,.int .i64 sale,.int .i64 dy,.int .i64 mt,.int .i64 0,.int .i64 0,.nils,.nils,.nils]],Ob.row 5 [[a0,b0,c0,.int .i64 (zofs o),zshD o]]]/\gQ a 108 (a[9]?=some (.loc 2 0 0)) [(1,.sl 8 (l.map Wnt.enc) lx),(4,.loc 0 0 0),(8,.loc 1 0 0)]) ?_ ?_
 ·simp only[push_cast,hal,h1,h4,h8,h9,h10,hw,hlo,hsp,Wnt.enc,↓WX,simprocAttr]
 rintro a V ⟨hV,hal,h1,h4,h8,h9⟩
 refine Ya (λa T=>(∃d6 d7,T[0]?=some (Ob.row 2 [P0])/\T[1]?=some Z0/\T[2]?=some (Ob.row 9 [[.str s,.int .i64 sale,.int .i64 dy,.int .i64 mt,.int .i64 (stpN l),.int .i64 ((l.length-1-stpN l:Nat):Int),d6,d7,.nils]])/\GL 1 Cnd.encT T d6 (l.map Wnt.car)/\GL 1 encZ T d7 (l.map Wnt.num))/\gQ a 108 (a[9]?=some (.loc 2 0 0)) [(1,.sl 8 (l.map Wnt.enc) lx),(4,.loc 0 0 0),(8,.loc 1 0 0)]) ?_ ?_
 ·simp only[push_cast,↓WX,simprocAttr]
  refine Yk (λi a T=>(∃d6 d7 sn tn,T[0]?=some (Ob.row 2 [P0])/\T[1]?=some Z0/\T[2]?=some (Ob.row 9 [[.str s,.int .i64 sale,.int .i64 dy,.int .i64 mt,.int .i64 sn,.int .i64 tn,d6,d7,.nils]])/\GL 1 Cnd.encT T d6 ((l.take i).map Wnt.car)/\GL 1 encZ T d7 ((l.take i).map Wnt.num)/\Apart d6 d7/\sn=(stpN (l.take i):Int)/\tn=((i-1-stpN (l.take i):Nat):Int))/\a.length=108/\a[1]?=some (.sl 8 (l.map Wnt.enc) lx)/\a[4]?=some (.loc 0 0 0)/\a[8]?=some (.loc 1 0 0)/\a[9]?=some (.loc 2 0 0)/\a[12]?=some (.int .i64 i)) l.length ?_ (by omega) ?_
  ·simp only[push_cast,hal,h1,h4,h8,h9,simprocAttr,WY]
   rw[hV]
   exact⟨_,_,_,_,rfl,rfl,rfl,GL.nil,GL.nil,(λk n k' n' h=>by cases h),rfl,rfl⟩
  clear hV
  rintro i a T hi ⟨⟨d6,d7,sn,tn,g0,g1,g2,k6,k7,hap,hsn,htn⟩,hal,h1,h4,h8,h9,h12⟩
  rcases Kw hi with hlt |rfl
  case inr=>
   rw[Vi]at k6 k7 hsn htn
   simp only[push_cast,hal,h1,h4,h8,h9,h12,↓WX,simprocAttr,WY]
   exact⟨_,_,g0,g1,by rw[g2,hsn,htn],k6,k7⟩
  have hltc:(i:Int)<l.length:=by omega
  obtain⟨x,hx⟩:∃x,l[i]?=some x:=⟨l[i],by simp⟩
  have hti:(l.take (i+1))=l.take i++[x]:=by rw[List.take_add_one,hx];rfl
  refine Ya (λa W=>W=T/\gQ a 108 (a[12]?=some (.int .i64 i)) [(1,.sl 8 (l.map Wnt.enc) lx),(4,.loc 0 0 0),(8,.loc 1 0 0),(9,.loc 2 0 0)]) ?_ ?_
  ·simp only[push_cast,hal,h1,h4,h8,h9,h12,hltc,↓WX,simprocAttr]
  rintro a W ⟨rfl,hal,h1,h4,h8,h9,h12⟩
  rw[Zx,Yx]
  have hlen6:((l.take i).map Wnt.car).length=i:=by rw[Uq,Ve];omega
  have hlen7:((l.take i).map Wnt.num).length=i:=by rw[Uq,Ve];omega
  obtain⟨S1,S2,a1,a2,e1,e2,hk,hg⟩:=two_app g2 (by decide) k6 k7 hap (by omega) (by omega) x.car x.num
  rw[hlen6]at a1 hg
  rw[hlen7]at a2 hg
  have f2:=(hk _ _ _ (by decide) g2).1
  have f2':=(hk _ _ _ (by decide) g2).2
  have hWl:2<W.length:=(Kr.1 g2).1
  have hS2:2<S2.length:=by omega
  refine Ya (λa U=>U=S2.set 2 (Ob.row 9 [[.str s,.int .i64 sale,.int .i64 dy,.int .i64 mt,.int .i64 sn,.int .i64 tn,.os W.length 0 (i+1) false,.os S1.length 0 (i+1) false,.nils]])/\gQ a 108 (a[12]?=some (.int .i64 i)) [(1,.sl 8 (l.map Wnt.enc) lx),(4,.loc 0 0 0),(8,.loc 1 0 0),(9,.loc 2 0 0)]) ?_ ?_
  ·rw[wc_plan (p:=(Yj [0,1,2,3,4,5,6,7,8,10,12,13] (.both (Yj [9,11,14,15,16,17,18,19,20,21,22,23] .done) (.both (Yj [11] (.both (Yj [9,14,15,16,17,18,19,20,21,22,23] .done) (Yj [14,15,16] (.both (Yj [9,17,18,19,20,21,22,23] .done) (Yj [17,9,18,19,20,21,22,23] .done))))) (Yj [14,15,16] (.both (Yj [9,11,17,18,19,20,21,22,23] .done) (.both (Yj [11] (.both (Yj [9,17,18,19,20,21,22,23] .done) (Yj [17,9,18,19,20,21,22,23] .done))) (Yj [17,18] (.both (Yj [9,11,19,20,21,22,23] .done) (Yj [11,9,19,20,21,22,23] .done)))))))))) rfl]
   rw[Kq rfl]
   simp only[opsOf,Un,Us,Ub,Uc,Ky]
   simp only[push_cast,hal,h1,h9,h12,g2,hx,Wnt.enc,↓WX,simprocAttr]
   apply wp_both
   ·rw[Kq rfl]
    simp only[opsOf,Un,Us,Ub,Uc,Ky]
    simp only[push_cast,hal,h9,f2,f2',hx,hS2,a1,a2,Wnt.enc,wp_done,Vy,↓Kj,id_eq,↓WX,simprocAttr]
    exact⟨rfl,rfl⟩
   ·apply wp_both
    ·rw[Kq rfl]
     simp only[opsOf,Un,Us,Ub,Uc,Ky]
     simp only[push_cast,hal,g2,↓Kj,id_eq,↓WX,simprocAttr]
     apply wp_both
     ·rw[Kq rfl]
      simp only[opsOf,Un,Us,Ub,Uc,Ky]
      simp only[push_cast,hal,h9,f2',hx,hS2,a1,a2,Wnt.enc,wp_done,Vy,↓Kj,id_eq,↓WX,simprocAttr]
      exact⟨rfl,rfl⟩
     ·rw[Kq rfl]
      simp only[opsOf,Un,Us,Ub,Uc,Ky]
      simp only[push_cast,hal,hx,Wnt.enc,↓WX,simprocAttr]
      apply wp_both
      ·rw[Kq rfl]
       simp only[opsOf,Un,Us,Ub,Uc,Ky]
       simp only[push_cast,hal,h9,f2',hS2,a1,a2,wp_done,Vy,↓Kj,id_eq,↓WX,simprocAttr]
       exact⟨rfl,rfl⟩
      ·rw[Kq rfl]
       simp only[opsOf,Un,Us,Ub,Uc,Ky]
       simp only[push_cast,hal,h9,f2',hS2,a1,a2,wp_done,Vy,↓Kj,id_eq,↓WX,simprocAttr]
      ·exact⟨rfl,rfl⟩
     ·exact⟨rfl,rfl⟩
    ·rw[Kq rfl]
     simp only[opsOf,Un,Us,Ub,Uc,Ky]
     simp only[push_cast,hal,hx,Wnt.enc,↓WX,simprocAttr]
     apply wp_both
     ·rw[Kq rfl]
      simp only[opsOf,Un,Us,Ub,Uc,Ky]
      simp only[push_cast,hal,h9,f2,f2',hS2,a1,a2,wp_done,Vy,↓Kj,id_eq,↓WX,simprocAttr]
      exact⟨rfl,rfl⟩
     ·apply wp_both
      ·rw[Kq rfl]
       simp only[opsOf,Un,Us,Ub,Uc,Ky]
       simp only[push_cast,hal,g2,↓Kj,id_eq,↓WX,simprocAttr]
       apply wp_both
       ·rw[Kq rfl]
        simp only[opsOf,Un,Us,Ub,Uc,Ky]
        simp only[push_cast,hal,h9,f2',hS2,a1,a2,wp_done,Vy,↓Kj,id_eq,↓WX,simprocAttr]
        exact⟨rfl,rfl⟩
       ·rw[Kq rfl]
        simp only[opsOf,Un,Us,Ub,Uc,Ky]
        simp only[push_cast,hal,h9,f2',hS2,a1,a2,wp_done,Vy,↓Kj,id_eq,↓WX,simprocAttr]
       ·exact⟨rfl,rfl⟩
      ·rw[Kq rfl]
       simp only[opsOf,Un,Us,Ub,Uc,Ky]
       simp only[push_cast,hal,↓WX,simprocAttr]
       apply wp_both
       ·rw[Kq rfl]
        simp only[opsOf,Un,Us,Ub,Uc,Ky]
        simp only[push_cast,hal,h9,f2,f2',hS2,a1,a2,wp_done,Vy,↓Kj,id_eq,↓WX,simprocAttr]
        exact⟨rfl,rfl⟩
       ·rw[Kq rfl]
        simp only[opsOf,Un,Us,Ub,Uc,Ky]
        simp only[push_cast,hal,h9,g2,f2',hS2,a1,a2,wp_done,Vy,↓Kj,id_eq,↓WX,simprocAttr]
       ·exact⟨rfl,rfl⟩
      ·exact⟨rfl,rfl⟩
     ·exact⟨rfl,rfl⟩
    ·exact⟨rfl,rfl⟩
   ·simp only[push_cast,hal,h1,h4,h8,h9,h12,simprocAttr]
  have u2:=Uf (a:=Ob.row 9 [[.str s,.int .i64 sale,.int .i64 dy,.int .i64 mt,.int .i64 sn,.int .i64 tn,.os W.length 0 (i+1) false,.os S1.length 0 (i+1) false,.nils]]) hS2
  obtain⟨hg6,hg7⟩:=hg (Ob.row 9 [[.str s,.int .i64 sale,.int .i64 dy,.int .i64 mt,.int .i64 sn,.int .i64 tn,.os W.length 0 (i+1) false,.os S1.length 0 (i+1) false,.nils]])
  have u0:(S2.set 2 (Ob.row 9 [[.str s,.int .i64 sale,.int .i64 dy,.int .i64 mt,.int .i64 sn,.int .i64 tn,.os W.length 0 (i+1) false,.os S1.length 0 (i+1) false,.nils]]))[0]?=some (Ob.row 2 [P0]):=by
   rw[Kt (by omega)]
   exact (hk _ _ _ (by decide) g0).2
  have u1:(S2.set 2 (Ob.row 9 [[.str s,.int .i64 sale,.int .i64 dy,.int .i64 mt,.int .i64 sn,.int .i64 tn,.os W.length 0 (i+1) false,.os S1.length 0 (i+1) false,.nils]]))[1]?=some Z0:=by
   rw[Kt (by omega),hZ0]
   exact (hk _ _ _ (by decide) (hZ0 ▸ g1)).2
  have hc6:(l.take i).map Wnt.car++[x.car]=(l.take (i+1)).map Wnt.car:=by rw[hti,List.map_append];rfl
  have hc7:(l.take i).map Wnt.num++[x.num]=(l.take (i+1)).map Wnt.num:=by rw[hti,List.map_append];rfl
  rw[hc6]at hg6 hg
  rw[hc7]at hg7 hg
  have hgs:∀r',GL 1 Cnd.encT ((S2.set 2 (Ob.row 9 [[.str s,.int .i64 sale,.int .i64 dy,.int .i64 mt,.int .i64 sn,.int .i64 tn,.os W.length 0 (i+1) false,.os S1.length 0 (i+1) false,.nils]])).set 2 r') (.os W.length 0 (i+1) false) ((l.take (i+1)).map Wnt.car)/\GL 1 encZ ((S2.set 2 (Ob.row 9 [[.str s,.int .i64 sale,.int .i64 dy,.int .i64 mt,.int .i64 sn,.int .i64 tn,.os W.length 0 (i+1) false,.os S1.length 0 (i+1) false,.nils]])).set 2 r') (.os S1.length 0 (i+1) false) ((l.take (i+1)).map Wnt.num):=λr'=>by
   rw[Vy]
   exact hg r'
  have hap2:Apart (.os W.length 0 (i+1) false) (.os S1.length 0 (i+1) false):=λk n k' n' h h'=>by
   have h1:=(D.os.inj h).1
   have h2:=(D.os.inj h').1
   omega
  clear hg hk a1 a2 f2 f2' k6 k7 hap hlen6 hlen7 hc6 hc7 g0 g1 g2 hti hZ0 hP0
  have hU2:2<(S2.set 2 (Ob.row 9 [[.str s,.int .i64 sale,.int .i64 dy,.int .i64 mt,.int .i64 sn,.int .i64 tn,.os W.length 0 (i+1) false,.os S1.length 0 (i+1) false,.nils]])).length:=by rw[Ux];exact hS2
  generalize S2.set 2 (Ob.row 9 [[.str s,.int .i64 sale,.int .i64 dy,.int .i64 mt,.int .i64 sn,.int .i64 tn,.os W.length 0 (i+1) false,.os S1.length 0 (i+1) false,.nils]])=U at*
  generalize D.os W.length 0 (i+1) false=q6 at*
  generalize D.os S1.length 0 (i+1) false=q7 at*
  rintro a U' ⟨rfl,hal,h1,h4,h8,h9,h12⟩
  rcases i with _ |j
  ·simp only[push_cast,hal,h1,h4,h8,h9,h12,hlt,Yf,↓WX,simprocAttr,WY]
   refine⟨_,_,_,_,u0,u1,u2,hg6,hg7,hap2,?_,?_⟩
   ·rw[hsn]
    rcases l with _ | ⟨q,l⟩
    ·cases hlt
    ·rfl
   ·rw[htn]
    rcases l with _ | ⟨q,l⟩
    ·cases hlt
    ·rfl
  obtain⟨y,hy⟩:∃y,l[j]?=some y:=⟨l[j],by simp⟩
  have hlj:j<l.length:=by omega
  have hst:=stpN_take hy hx
  have hle:=stpN_le (l.take (j+1))
  have hws:IntKind.i64.wrap (sn+1)=sn+1:=by
   rw[Ve]at hle
   exact Yf (by omega) (by omega)
  have hwt:IntKind.i64.wrap (tn+1)=tn+1:=Yf (by omega) (by omega)
  have s0:∀r,(U'.set 2 r)[0]?=some (Ob.row 2 [P0]):=λr=>by rw[Kt (by omega)];exact u0
  have s1:∀r,(U'.set 2 r)[1]?=some Z0:=λr=>by rw[Kt (by omega)];exact u1
  have s2:∀r,(U'.set 2 r)[2]?=some r:=λr=>Uf hU2
  rw[Ve]at hle
  have hw1:IntKind.i64.wrap ((j:Int)+1-1)=j:=by rw[show (j:Int)+1-1=j by omega];exact Yf (by omega) (by omega)
  have hne:decide ((j:Int)+1=0)=false:=Ud (by omega)
  have hge:(0<=(j:Int)+1)=True:=eq_true (by omega)
  have htj:((j:Int)+1).toNat=j+1:=by omega
  by_cases c:1440<=IntKind.i64.wrap (x.dep-y.arr)
  ·rw[if_pos c]at hst
   simp(disch:=omega)only[push_cast,hal,h1,h4,h8,h9,h12,u2,hU2,hne,hge,htj,hw1,hlt,hx,hy,c,hws,Wnt.enc,Yf,↓WX,simprocAttr,WY]
   refine⟨_,_,_,_,u0,u1,rfl,(hgs _).1,(hgs _).2,hap2,?_,?_⟩ <;> rw[hst] <;> omega
  ·rw[if_neg c]at hst
   simp(disch:=omega)only[push_cast,hal,h1,h4,h8,h9,h12,u2,hU2,hne,hge,htj,hw1,hlt,hx,hy,c,hwt,Wnt.enc,Yf,↓WX,simprocAttr,WY]
   refine⟨_,_,_,_,u0,u1,rfl,(hgs _).1,(hgs _).2,hap2,?_,?_⟩
   ·rw[hst]
    omega
   ·rw[hst]
    omega
 clear hV
 rintro a T ⟨⟨d6,d7,g0,g1,g2,k6,k7⟩,hal,h1,h4,h8,h9⟩
 subst hP0
 have hlt2:2<T.length:=(Kr.1 g2).1
 refine Ya (λa W=>W=T/\gQ a 108 (a[13]?=some (.sl 1 (cs.map Cnd.encT) cx)) [(4,.loc 0 0 0),(8,.loc 1 0 0),(9,.loc 2 0 0)]) ?_ ?_
 ·simp only[push_cast,hal,h1,h4,h8,h9,g0,hcs,↓WX,simprocAttr]
 rintro a W ⟨rfl,hal,h4,h8,h9,h13⟩
 have h1c:(1:Int)<=cs.length:=by omega
 have hge:(0<=(cs.length:Int)-1)=True:=eq_true (by omega)
 have htn:((cs.length:Int)-1).toNat=cs.length-1:=by omega
 rw[hZ0]at g1
 have o6:=k6.one
 have o7:=k7.one
 simp only[D.one]at o6 o7
 have hlt1:1<W.length:=by omega
 have h2c:(1<=cs.length-1/\cs.length-1<=cs.length)=True:=eq_true ⟨by omega,by omega⟩
 simp(maxSteps:=1000000)(disch:=omega)only[push_cast,hal,h8,h9,h13,o6,o7,h2c,g1,g2,hlt1,hlt2,hge,htn,Yf,Tryz.f83,↓WX,simprocAttr]
 refine⟨d6,d7,.sl 1 (((cs.drop 1).take (cs.length-1-1)).map Cnd.encT) (cx && decide (cs.length-1=cs.length)),by rw[List.map_take,List.map_drop];rfl,(k6.sets g2 (by decide) _).sets (z:=9) (by rw[Kt (by omega)];exact g1) (by decide) _,(k7.sets g2 (by decide) _).sets (z:=9) (by rw[Kt (by omega)];exact g1) (by decide) _,.inr ⟨_,rfl⟩⟩
theorem freeze_agg9 {T:List Ob} {a:ByteArray} {b c d e f:Int} {x y z x' y' z':D} (fx:Xp T 39 x=some x') (fy:Xp T 39 y=some y') (fz:Xp T 39 z=some z'):Xp T 40 (.agg [.str a,.int .i64 b,.int .i64 c,.int .i64 d,.int .i64 e,.int .i64 f,x,y,z])=some (.agg [.str a,.int .i64 b,.int .i64 c,.int .i64 d,.int .i64 e,.int .i64 f,x',y',z']):=by
 have s1:∀t,Xp T 39 (.str t)=some (.str t):=λ_=>rfl
 have s2:∀t,Xp T 39 (.int .i64 t)=some (.int .i64 t):=λ_=>rfl
 rw[show (40:Nat)=39+1 from rfl,Xp]
 simp only[mapO,s1,s2,fx,fy,fz,Vm]
 split
 ·rename_i h
  simp only[D.pure,Yc,Yg,Ua,Kv,WY]at h
  obtain⟨h1,h2,h3⟩:=h
  obtain rfl:=Kz ((Yy h1).symm.trans fx)
  obtain rfl:=Kz ((Yy h2).symm.trans fy)
  obtain rfl:=Kz ((Yy h3).symm.trans fz)
  rfl
 ·rfl
theorem freeze_tup2 {T:List Ob} {x x':D} {v:Int} (fx:Xp T 39 x=some x'):Xp T 40 (.tup [x,.int .i64 v])=some (.tup [x',.int .i64 v]):=by
 have s2:∀t,Xp T 39 (.int .i64 t)=some (.int .i64 t):=λ_=>rfl
 rw[show (40:Nat)=39+1 from rfl,Xp]
 simp only[mapO,s2,fx,Vm]
 split
 ·rename_i h
  simp only[D.pure,Yc,Yg,Ua]at h
  obtain rfl:=Kz ((Yy h).symm.trans fx)
  rfl
 ·rfl
theorem Trip25_x (p:Plc) (hpa:p.aps.length<=1048576) (hsh:∀a∈p.aps,a.sh.length<=1048576) (l:List Wnt) (lx:Bool) (hl:l.length<=900) (hl0:l≠[]) (s:ByteArray) (sale:Int) (hn:1048610<=n):
  ∃x y z,(tripF p l s sale).Ok x y z/\∀st S,Yi E (Yb E n) st S 83 [.agg p.enc,.sl 8 (l.map Wnt.enc) lx,.str s,.int .i64 sale]=some (.agg ((tripF p l s sale).enc x y z),S):=by
 obtain⟨m,rfl⟩:∃m,n=m+1:=⟨n-1,by omega⟩
 obtain⟨_,T,ho,d6,d7,dv,rfl,k6,k7,kv⟩:=Trip25_d (n:=m) p hpa hsh l lx hl hl0 s sale (by omega)
 obtain⟨x,fx,hx⟩:=k6.flsN (Cnd.encT_pure _) 37
 obtain⟨y,fy,hy⟩:=k7.flsN (encZs_pure' _) 37
 refine⟨x,y,dv,⟨hx,hy,kv,?_,?_,?_⟩,λst S=>Yd rfl (by simp only[Yc,Yg,D.pure,Yt,Jd,Ua]) ho ?_⟩
 ·simp only[tripF,Uq];omega
 ·simp only[tripF,Uq];omega
 ·simp only[tripF,Ve,Vf,citF_len p hl0];omega
 ·clear ho
  generalize tripF p l s sale=tf at*
  have fz:Xp T 39 dv=some dv:=Yy (Xr kv (Cnd.encT_pure _))
  exact freeze_agg9 fx fy fz
end
theorem rou_lit (o:Option Rou):∃c0 c1 c2:D,rouD o=.agg [c0,c1,c2]/\c0.one=true/\c1.one=true/\c2.one=true:=by
 cases o with
 |none=>exact⟨_,_,_,rfl,rfl,rfl,rfl⟩
 |some r=>exact⟨_,_,_,rfl,rfl,rfl,rfl⟩
theorem Za {E:Env} {call:Call} {n:Nat} {x y:Code} {a:List D} {S:List Ob} {Q:PostX} (P:List D->List Ob->Prop) (h:WC (Yr E call n x a S) λr a S=>(r=.normal/\P a S)∨(r=.ret/\Q .ret a S)) (k:∀a S,P a S->WC (Yr E call n y a S) Q):
  WC (Yr E call n (.seq x y) a S) Q:=by
 rw[Zx]
 refine wc_mono h ?_
 rintro r a S (⟨rfl,hp⟩ | ⟨rfl,hq⟩)
 ·exact k a S hp
 ·exact hq
section
variable {n : Nat}
end
def LQ {α:Type} (sz:Nat) (enc:α->List D) (S:List Ob) (d:D) (l:List α):Prop:=(d=.nils/\l=[])∨(∃x,d=.sl sz (l.map enc) x/\∀J:List Ob,(J++S)[(J++S).length]?=none)∨∃k,d=.os k 0 l.length false/\∀J,(S++J)[k]?=some (.row sz (l.map enc))
section
variable {α : Type} {sz : Nat} {enc : α -> List D} {S T : List Ob} {d : D} {l : List α}
theorem FLs.lq (h:FLs sz enc d l):LQ sz enc S d l:=h.elim .inl λ⟨x,h⟩=>.inr (.inl ⟨x,h,λ_=>List.getElem?_eq_none (Uk _)⟩)
theorem GL.lq (h:GL sz enc S d l):LQ sz enc S d l:=h.elim .inl λ⟨k,h,g⟩=>.inr (.inr ⟨k,h,λ_=>Ym g⟩)
theorem LQ.ext (h:LQ sz enc S d l) (g:ExtS S T):LQ sz enc T d l:=by
 rcases h with h | ⟨x,h,-⟩ | ⟨k,h,hk⟩
 ·exact .inl h
 ·exact FLs.lq (.inr ⟨x,h⟩)
 ·exact .inr (.inr ⟨k,h,λJ=>Ym (g _ _ (by have:=hk [];rwa [Ur]at this))⟩)
theorem lq_len {t e:TypeId} (ht:Tryz.prog.underlying t=some (.slice e)) (h:LQ sz enc S d l) (T:List Ob):dLen Tryz.prog T t d=some (.int .i64 l.length):=by
 unfold dLen
 rw[ht]
 rcases h with ⟨rfl,rfl⟩ | ⟨x,rfl,-⟩ | ⟨k,rfl,-⟩
 ·rfl
 ·dsimp only
  rw[Uq]
 ·rfl
theorem LQ.one (h:LQ sz enc S d l):d.one=true:=by
 rcases h with ⟨rfl,-⟩ | ⟨x,rfl,-⟩ | ⟨k,rfl,-⟩ <;> rfl
theorem Jx {J:List Ob}:ExtS S (S++J):=λ_ _ h=>Ym h
theorem obs_q {n:Nat} {f:FuncId} {A:D->List D} {v:D} (hm:E.mode f=.obs) (hp:Zc (l.map enc)=true) (hv:v.pure=true) (hA:∀d,d.pure=true->Yp (A d)=true) (hB:∀k n,Yp (A (.os k 0 n false))=false) (h:∀S,LQ sz enc S d l->WO (Yb E n f (A d) S) λr T=>r=v/\∃J,T=S++J) (hl:LQ sz enc S d l):∀st,Yi E (Yb E n) st S f (A d)=some (v,S):=by
 intro st
 rcases hl with h0 | ⟨x,h0,h1⟩ | ⟨k,h0,h1⟩
 ·obtain⟨_,_,ho,rfl,J,rfl⟩:=h [] (.inl h0)
  exact callD_obsP hm (hA _ (by rw[h0.1];rfl)) ho (Yy hv)
 ·obtain⟨_,_,ho,rfl,J,rfl⟩:=h [] (FLs.lq (.inr ⟨x,h0⟩))
  exact callD_obsP hm (hA _ (by rw[h0];simp only[D.pure,hp])) ho (Yy hv)
 ·obtain⟨_,_,ho,rfl,J,rfl⟩:=h S (.inr (.inr ⟨k,h0,h1⟩))
  exact callD_obsJ hm (by rw[h0];exact hB _ _) ho hv
end
def zeFar:Far:=⟨ByteArray.mk #[],ByteArray.mk #[],ByteArray.mk #[],ByteArray.mk #[],ByteArray.mk #[],false,0,0,0⟩
def farF (t:Trf) (x:Prt):Far:=(t.fares[x.fa.toNat]?).getD zeFar
def knoF (t:Trf) (x:Prt):Bool:= !(decide (x.fa<0) || decide (x.fa>=t.fares.length))
def prdF (ps:List (Int×Int)) (i:Int):Bool:=ps.any λp=>decide (p.1=i) || decide (p.2=i)
def rtnF (a b:Far):Bool:=a.rnd && (b.rnd && (decide (a.car=b.car) && (decide (a.frm=b.dst) && decide (a.dst=b.frm))))
def prtF (t:Trf) (ps:List (Int×Int)) (a:Far):Nat->List Prt->Int
 |_,[]=> -1
 |k,y::ys=>if (!prdF ps k && rtnF a (farF t y))=true then (k:Int) else prtF t ps a (k+1) ys
def prsF (t:Trf):Nat->List Prt->List (Int×Int)->Option (List (Int×Int))
 |_,[],ps=>some ps
 |i,x::xs,ps=>if (!(farF t x).rnd || prdF ps i)=true then prsF t (i+1) xs ps else if prtF t ps (farF t x) (i+1) xs<0 then none else prsF t (i+1) xs (ps++[((i:Int),prtF t ps (farF t x) (i+1) xs)])
def Xq (t:Trf) (l:List Prt):List (Int×Int)×Int:=if l.all (knoF t)=true then match prsF t 0 l [] with |some ps=>(ps,0) |none=>([],23) else ([],19)
theorem knoF_far {t:Trf} {x:Prt} (h:knoF t x=true):0<=x.fa/\x.fa.toNat<t.fares.length/\t.fares[x.fa.toNat]?=some (farF t x):=by
 unfold knoF at h
 simp only[Bool.not_eq_true',Bool.or_eq_false_iff,decide_eq_false_iff_not]at h
 have hl:x.fa.toNat<t.fares.length:=by omega
 refine⟨by omega,hl,?_⟩
 unfold farF
 rw[Uh hl]
 rfl
section
variable {n : Nat}
theorem known26_d {S:List Ob} (t:Trf) {d:D} {l:List Prt} (h:LQ 4 Prt.enc S d l) (hl:l.length<=1000) (hn:2000<=n):WO (Yb E (n+1) 95 [.agg t.enc,d] S) λr T=>r=.bool (l.all (knoF t))/\∃J,T=S++J:=by
 have hy:=lq_len Tryz.underlying37 h
 simp only[push_cast]at hy
 obtain⟨q,hq⟩:∃q,q=l.all (knoF t):=⟨_,rfl⟩
 rw[<-hq]
 simp only[Trf.enc]
 refine Ye Tryz.func95 rfl (by decide) rfl 29 rfl (λa hal ha=>?_)
 obtain⟨h0,h1⟩:=aQ2 ha
 clear ha
 simp only[push_cast,h0,↓WX,simprocAttr]
 refine Yk (λi a T=>(T=S++[Ob.row 4 [[.sl 9 (t.fares.map Far.enc) t.fx,.sl 15 (t.rules.map Rul.enc) t.rx,.sl 3 (t.rous.map Rou.enc) t.ox,.sl 7 (t.taxes.map Tx.enc) t.tx]]]/\q=(l.drop i).all (knoF t))/\a.length=29/\a[1]?=some (d)/\a[2]?=some (.loc S.length 0 0)/\a[5]?=some (.int .i64 i)) l.length ?_ (by omega) ?_
 ·simp only[push_cast,hal,h1,simprocAttr,WY]
  exact hq
 rintro i a T hi ⟨⟨rfl,e⟩,hal,h1,h2,h5⟩
 rcases Kw hi with hlt |rfl
 case inr=>
  rw[Vj,List.all_nil]at e
  subst e
  simp only[push_cast,hal,h1,h5,hy,Tryz.f95,↓WX,simprocAttr,WY]
  exact⟨_,rfl⟩
 have hltc:(i:Int)<l.length:=by omega
 obtain⟨x,hx⟩:∃x,l[i]?=some x:=⟨l[i],by simp⟩
 rw[Yu hx,List.all_cons]at e
 unfold knoF at e
 rcases h with ⟨-,rfl⟩ | ⟨lx,rfl,hk⟩ | ⟨kk,rfl,hk⟩
 ·cases hx
 all_goals
  by_cases c1:x.fa<0
  ·simp only[Ue c1,Bool.true_or,WY]at e
   subst e
   simp only[push_cast,hal,h1,h5,hk,hltc,hx,c1,Prt.enc,Tryz.f95,↓WX,simprocAttr]
   exact⟨_,rfl⟩
  by_cases c2:x.fa>=t.fares.length
  ·simp only[Ue c2,Bool.or_true,WY]at e
   subst e
   have c2':((t.fares.length:Int)<=x.fa)=True:=eq_true c2
   simp only[push_cast,hal,h1,h2,h5,hk,hltc,hx,c1,c2',Yl,Prt.enc,Tryz.f95,↓WX,simprocAttr]
   exact⟨_,rfl⟩
  ·simp only[Ud c1,Ud c2,Bool.or_false,WY]at e
   have c2':((t.fares.length:Int)<=x.fa)=False:=eq_false c2
   simp(disch:=omega)only[push_cast,hal,h1,h2,h5,hk,hltc,hlt,hx,c1,c2',Yl,Prt.enc,Yf,↓WX,simprocAttr,WY]
   exact e
theorem known26_x {S:List Ob} (t:Trf) {d:D} {l:List Prt} (h:LQ 4 Prt.enc S d l) (hl:l.length<=1000) (hn:2001<=n):∀st,Yi E (Yb E n) st S 95 [.agg t.enc,d]=some (.bool (l.all (knoF t)),S):=by
 obtain⟨m,rfl⟩:∃m,n=m+1:=⟨n-1,by omega⟩
 exact obs_q (A:=λd=>[.agg t.enc,d]) rfl (Jr l) rfl (λd hd=>by simp only[Yc,Yg,D.pure,Ja,hd,Ua]) (λk n=>by simp only[Yc,Yg,D.pure,Bool.and_false,WY]) (λS h=>known26_d t h hl (by omega)) h
theorem paired26_d {S:List Ob} {d:D} {l:List (Int×Int)} (h:LQ 2 Xa S d l) (hl:l.length<=1000) (j:Int) (hn:2000<=n):WO (Yb E (n+1) 96 [d,.int .i64 j] S) λr T=>r=.bool (prdF l j)/\∃J,T=S++J:=by
 have hy:=lq_len Tryz.underlying38 h
 simp only[push_cast]at hy
 unfold prdF
 obtain⟨q,hq⟩:∃q,q=l.any λp=>decide (p.1=j) || decide (p.2=j):=⟨_,rfl⟩
 rw[<-hq]
 refine Ye Tryz.func96 rfl (by decide) rfl 28 rfl (λa hal ha=>?_)
 obtain⟨h0,h1⟩:=aQ2 ha
 clear ha
 simp only[push_cast,↓WX,simprocAttr]
 refine Yk (λi a T=>(T=S/\q=(l.drop i).any λp=>decide (p.1=j) || decide (p.2=j))/\a.length=28/\a[0]?=some (d)/\a[1]?=some (.int .i64 j)/\a[5]?=some (.int .i64 i)) l.length ?_ (by omega) ?_
 ·simp only[push_cast,hal,h0,h1,simprocAttr,WY]
  exact hq
 rintro i a T hi ⟨⟨rfl,e⟩,hal,h0,h1,h5⟩
 rcases Kw hi with hlt |rfl
 case inr=>
  rw[Vj,List.any_nil]at e
  subst e
  simp only[push_cast,hal,h0,h5,hy,Tryz.f96,↓WX,simprocAttr,WY]
  exact⟨[],(Ur _).symm⟩
 have hltc:(i:Int)<l.length:=by omega
 obtain⟨x,hx⟩:∃x,l[i]?=some x:=⟨l[i],by simp⟩
 rw[Yu hx,List.any_cons]at e
 rcases h with ⟨-,rfl⟩ | ⟨lx,rfl,hk⟩ | ⟨kk,rfl,hk⟩
 ·cases hx
 case' inr.inr=>have hk:=hk [];rw[Ur]at hk
 all_goals
  cases c1:decide (x.1=j)
  case true=>
   rw[c1,Bool.true_or,Bool.true_or]at e
   subst e
   simp only[push_cast,hal,h0,h1,h5,hk,hltc,hx,c1,Xa,Tryz.f96,↓WX,simprocAttr]
   exact⟨[],(Ur _).symm⟩
  cases c2:decide (x.2=j)
  ·rw[c1,c2,Bool.false_or,Bool.false_or]at e
   simp(disch:=omega)only[push_cast,hal,h0,h1,h5,hk,hltc,hlt,hx,c1,c2,Xa,Yf,↓WX,simprocAttr,WY]
   exact e
  ·rw[c1,c2,Bool.false_or,Bool.true_or]at e
   subst e
   simp only[push_cast,hal,h0,h1,h5,hk,hltc,hx,c1,c2,Xa,Tryz.f96,↓WX,simprocAttr]
   exact⟨[],(Ur _).symm⟩
theorem paired26_x {S:List Ob} {d:D} {l:List (Int×Int)} (h:LQ 2 Xa S d l) (hl:l.length<=1000) (j:Int) (hn:2001<=n):∀st,Yi E (Yb E n) st S 96 [d,.int .i64 j]=some (.bool (prdF l j),S):=by
 obtain⟨m,rfl⟩:∃m,n=m+1:=⟨n-1,by omega⟩
 exact obs_q (A:=λd=>[d,.int .i64 j]) rfl (Ka l) rfl (λd hd=>by simp only[Yc,Yg,D.pure,hd,Ua]) (λk n=>by simp only[Yc,Yg,D.pure,WY]) (λS h=>paired26_d h hl j (by omega)) h
theorem returns26_x (a b:Far) (hn:1<=n):∀st S,Yi E (Yb E n) st S 148 [.agg a.enc,.agg b.enc]=some (.bool (rtnF a b),S):=by
 obtain⟨m,rfl⟩:∃m,n=m+1:=⟨n-1,by omega⟩
 have hp:Yp [.agg a.enc,.agg b.enc]=true:=by simp only[Yc,Yg,D.pure,Far_pure,Ua]
 simp only[Far.enc]at hp ⊢
 have:WO (Yb E (m+1) 148 [.agg [.str a.car,.str a.frm,.str a.dst,.str a.bas,.str a.cls,.bool a.rnd,.int .i64 a.amt,.int .i64 a.rul,.int .i64 a.rou],.agg [.str b.car,.str b.frm,.str b.dst,.str b.bas,.str b.cls,.bool b.rnd,.int .i64 b.amt,.int .i64 b.rul,.int .i64 b.rou]] []) λr T=>r=.bool (rtnF a b):=by
  unfold rtnF
  obtain⟨a1,a2,a3,a4,a5,a6,a7,a8,a9⟩:=a
  obtain⟨b1,b2,b3,b4,b5,b6,b7,b8,b9⟩:=b
  dsimp only
  refine Ye Tryz.func148 rfl (by decide) rfl 32 rfl (λa hal ha=>?_)
  obtain⟨h0,h1⟩:=aQ2 ha
  clear ha
  cases a6
  ·simp only[push_cast,hal,h0,h1,Tryz.f148,↓WX,simprocAttr,WY]
  cases b6
  ·simp only[push_cast,hal,h0,h1,Tryz.f148,↓WX,simprocAttr,WY]
  cases e1:decide (a1=b1)
  ·simp only[push_cast,hal,h0,h1,e1,Yo,Tryz.f148,↓WX,simprocAttr,WY]
  cases e2:decide (a2=b3)
  ·simp only[push_cast,hal,h0,h1,e1,e2,Yo,Tryz.f148,↓WX,simprocAttr,WY]
  ·simp only[push_cast,hal,h0,h1,e1,e2,Yo,Tryz.f148,↓WX,simprocAttr,WY]
 obtain⟨_,T,ho,rfl⟩:=this
 exact λst S=>Yd rfl hp ho rfl
end
structure Srch where
 n:Nat
 opts:Nat->List Prt
 least:Nat->Option Int
 mix:List Prt->Bool
 chk:List Prt->Bool
 prc:List Prt->Option Quo
def Srch.cands (s:Srch):Nat->Nat->List (List Prt)
 |0,i=>if i=s.n then [[]] else []
 |k+1,i=>if i=s.n then [[]] else (s.opts i).flatMap λx=>(s.cands k x.to.toNat).map (x:: ·)
def Srch.fin (s:Srch) (l:List Prt) (b:Option Quo):Option Quo:=
 if s.chk l=true then match s.prc l with
  |none=>b
  |some q=>match b with
   |none=>some q
   |some c=>if betterF q c=true then some q else some c
 else b
def Srch.wrt (s:Srch) (l:List Prt) (sum:Int) (b:Option Quo) (x:Prt):Bool:=
 match s.least x.to.toNat with
 |none=>false
 |some r=>if sum+x.am+r>1099511627776 then false else
  (match b with
   |none=>true
   |some c=>if sum+x.am+r>c.fare then false else
    if sum+x.am+r=c.fare/\(l.length+1+(if x.to<s.n then 1 else 0):Nat)>=c.parts.length then false else true) && s.mix (l++[x])
def Srch.frm (s:Srch):Nat->Nat->List Prt->Int->Option Quo->Option Quo
 |0,i,l,_,b=>if i=s.n then s.fin l b else b
 |k+1,i,l,sum,b=>if i=s.n then s.fin l b else
   (s.opts i).foldl (λb x=>if s.wrt l sum b x=true then s.frm k x.to.toNat (l++[x]) (sum+x.am) b else b) b
def amP:List Prt->Int
 | []=>0
 |x::xs=>x.am+amP xs
theorem amP_app:∀(l m:List Prt),amP (l++m)=amP l+amP m
 | [],m=>by simp[amP]
 |x::xs,m=>by rw[Uv,amP,amP,amP_app xs m];omega
structure Srch.Ok (s:Srch):Prop where
 to:∀i,∀x∈s.opts i,(i:Int)<x.to/\x.to<=s.n
 am:∀i,∀x∈s.opts i,0<=x.am
 ord:∀i,(s.opts i).Pairwise λx y=>x.to<y.to∨(x.to=y.to/\x.fa<y.fa)
 no:∀i k,i<=s.n->s.least i=none->s.cands k i=[]
 lo:∀i k r,i<=s.n->s.least i=some r->∀l∈s.cands k i,r<=amP l
 mx:∀l m,s.chk (l++m)=true->s.mix l=true
 pr:∀l q,s.prc l=some q->q.parts=l/\q.fare=amP l/\q.fare<=1099511627776
 mono:∀l m p q,s.prc l=some p->s.prc m=some q->p.fare<q.fare->p.total<q.total
 same:∀l m p q,s.prc l=some p->s.prc m=some q->p.fare=q.fare->p.total=q.total
theorem Srch.cands_len {s:Srch}:∀ {k i:Nat} {l:List Prt},l∈s.cands k i->i<s.n->1<=l.length:=by
 intro k i l h hi
 cases k with
 |zero=>rw[Srch.cands,if_neg (by omega)]at h;cases h
 |succ k=>
  rw[Srch.cands,if_neg (by omega)]at h
  obtain⟨x,-,hx⟩:=List.mem_flatMap.1 h
  obtain⟨m,-,rfl⟩:=Vq.1 hx
  exact Nat.le_add_left 1 m.length
theorem Srch.skip {s:Srch} (h:s.Ok) {l:List Prt} {b:Option Quo} {i k:Nat} {x:Prt} (hx:x∈s.opts i) (hb:∀c,b=some c->(∃p,s.prc p=some c)/\∀m∈s.cands k x.to.toNat,ltP c.parts (l++x::m)=true) (hw:s.wrt l (amP l) b x=false):∀m∈s.cands k x.to.toNat,s.fin (l++x::m) b=b:=by
 intro m hm
 obtain⟨t1,t2⟩:=h.to i x hx
 have tn:x.to.toNat<=s.n:=by omega
 unfold Srch.fin
 by_cases hc:s.chk (l++x::m)=true
 case neg=>rw[if_neg hc]
 rw[if_pos hc]
 cases hp:s.prc (l++x::m) with
 |none=>rfl
 |some q=>
  obtain⟨q1,q2,q3⟩:=h.pr _ _ hp
  rw[amP_app,amP]at q2
  have hmx:s.mix (l++[x])=true:=h.mx (l++[x]) m (by simpa using hc)
  unfold Srch.wrt at hw
  cases hl:s.least x.to.toNat with
  |none=>rw[h.no _ k tn hl]at hm;cases hm
  |some r=>
   rw[hl]at hw
   dsimp only at hw
   have hr:=h.lo _ k r tn hl m hm
   rw[if_neg (by omega),hmx,Ua]at hw
   cases b with
   |none=>cases hw
   |some c=>
    dsimp only at hw ⊢
    obtain⟨⟨p,hcp⟩,hlt⟩:=hb c rfl
    have hlt:=hlt m hm
    obtain⟨c1,c2,c3⟩:=h.pr _ _ hcp
    have hnb:betterF q c=false:=by
     unfold betterF
     have hm1:(if x.to<s.n then 1 else 0)<=m.length:=by
      by_cases e:x.to<s.n
      ·rw[if_pos e]
       exact Srch.cands_len hm (by omega)
      ·rw[if_neg e]
       exact Vt _
     generalize (if x.to<s.n then 1 else 0)=one at*
     by_cases e1:amP l+x.am+r>c.fare
     ·have:=h.mono _ _ _ _ hcp hp (by omega)
      rw[if_neg (by omega)]
      exact Ud (by omega)
     rw[if_neg e1]at hw
     by_cases e2:amP l+x.am+r=c.fare/\l.length+1+one>=c.parts.length
     ·obtain⟨e2,e3⟩:=e2
      rcases Int.lt_or_eq_of_le (show c.fare<=q.fare by omega) with g |g
      ·have:=h.mono _ _ _ _ hcp hp g
       rw[if_neg (by omega)]
       exact Ud (by omega)
      ·rw[if_pos (h.same _ _ _ _ hcp hp g).symm]
       have hql:q.parts.length=l.length+1+m.length:=by rw[q1,Ku,Uu];omega
       by_cases c4:q.parts.length=c.parts.length
       ·rw[if_pos c4,q1]
        exact ltP_asym hlt
       ·rw[if_neg c4]
        exact Ud (by omega)
     ·rw[if_neg e2]at hw
      cases hw
    rw[hnb,if_neg (by simp)]
end Go.Proofs.YtaklebjoenophaaGreat.Dm
