/-
  The machine's slices of slices and of texts, its operators and conversions: each is what the model does.
-/
import Derived.Test.YtaklebjoenophaaGreatDmR
import Derived.Laws.StructEq
import Derived.ChangeKeysEq
set_option linter.unusedSimpArgs false
set_option linter.unusedVariables false
namespace Go.Proofs.YtaklebjoenophaaGreat.Dm
open Go Go.RowKit
def OV (W:World) (C:Cx):Option D->Option Value->Prop
 |none,none=>True
 |some d,some v=>VR W C d v
 |_,_=>False
section
variable {P : Program} {W : World} {C : Cx} {S : List Ob}
theorem Km {y:Nat} {k:IntKind} {n:Int} {code:BoundsCode} (h0:0<=n) (h1:n<=y) (w:World):(Instr.sliceBound (.int k n) y code).run P w=.ok n.toNat w:=by
 simp[Instr.sliceBound,asIntOf,h0,h1]
theorem OV.int {k:IntKind} {n:Int} {v:Option Value} (h:OV W C (some (.int k n)) v):v=some (.int k n):=by
 cases v with
 |none=>cases h
 |some v=>cases (show VR W C (.int k n) v from h);rfl
theorem OV.none' {v:Option Value} (h:OV W C none v):v=none:=by
 cases v with
 |none=>rfl
 |some v=>cases h
theorem dBounds_x {len l h:Nat} {y:Bool} {lo hi:Option D} (hd:Kc len false lo hi none=some (l,h,y)):y=false:=by
 cases e1:Kf 0 lo with
 |none=>simp[Kc,e1]at hd
 |some a=>
  cases e2:Kf len hi with
  |none=>simp[Kc,e1,e2]at hd
  |some b=>
   simp[Kc,e1,e2]at hd
   cases y <;> simp_all
theorem dBounds_cap {a cap l h:Nat} {y:Bool} {lo:Option D} {d:D} (hd:Kc a false lo (some d) none=some (l,h,y)) (hc:a<=cap):Kc cap false lo (some d) none=some (l,h,false):=by
 have e:Kf cap (some d)=Kf a (some d):=by cases d <;> rfl
 unfold Kc at*
 rw[e]
 cases e1:Kf 0 lo with
 |none=>simp[e1]at hd
 |some l'=>
  cases e2:Kf a (some d) with
  |none=>simp[e1,e2]at hd
  |some h'=>
   simp only[e1,e2]at hd ⊢
   split at hd
   ·rename_i hq
    simp only[Bool.false_and,Uw,Prod.mk.injEq]at hd
    obtain⟨rfl,rfl,-⟩:=hd
    rw[if_pos ⟨hq.1,by omega⟩,Bool.false_and]
   ·cases hd
theorem dCut3_spec {len:Nat} {lo hi mx:Option D} (h:dCut3 len lo hi mx=true):∃kl nl kh nh km nm,lo=some (.int kl nl)/\hi=some (.int kh nh)/\mx=some (.int km nm)/\0<=nl/\nl<=nh/\nh<=nm/\nm<=(len:Int):=by
 unfold dCut3 at h
 split at h
 ·simp only[Kv,Up]at h
  obtain⟨⟨⟨c1,c2⟩,c3⟩,c4⟩:=h
  exact⟨_,_,_,_,_,_,rfl,rfl,rfl,c1,c2,c3,c4⟩
 ·cases h
theorem OV.refl_none (W:World) (C:Cx):OV W C none none:=trivial
theorem run_bounds {len cap:Nat} {x:Bool} (hc:len<=cap) (hx:x=true->cap=len) {lo hi mx:Option D} {low high max:Option Value} (h1:OV W C lo low) (h2:OV W C hi high) (h3:OV W C mx max) {l h:Nat} {x':Bool} (hd:Kc len x lo hi mx=some (l,h,x')) (isS:Bool):
  ∃m,(Instr.sliceBounds isS len cap low high max).run P W=.ok (l,h,m) W/\l<=h/\h<=len/\h<=m/\m<=cap/\(x'=true->m=h)/\(x'=false->m=cap):=by
 unfold Kc at hd
 have key:∀(l? h? :Nat),Kf 0 lo=some l? ->Kf len hi=some h? ->l? <=h? ->h? <=len->
   (∀m,h? <=m->m<=cap->max=none∨(max.isSome=true/\hi.isSome=true)->(max=none->m=cap)->(∀v,max=some v->(Instr.sliceBound v cap (if isS then .slice3Acap else .slice3Alen)).run P W=.ok m W)->(Instr.sliceBounds isS len cap low high max).run P W=.ok (l?,h?,m) W):=by
  intro l? h? e1 e2 hl hh m hm hmc hmx hmn hmv
  have E1:max=none->m=cap:=hmn
  cases max with
  |none=>
   have:=hmn rfl
   subst this
   cases hi with
   |none=>
    have:=h2.none'
    subst this
    cases e2
    cases lo with
    |none=>have:=h1.none';subst this;cases e1;simp[Instr.sliceBounds]
    |some d=>
     cases d <;> try (simp[Kf]at e1;done)
     have:=h1.int;subst this
     dsimp only[Kf]at e1
     split at e1
     ·rename_i h0;cases e1;simp[Instr.sliceBounds,Km h0 (show _<=(len:Int) by omega)]
     ·cases e1
   |some d=>
    cases d <;> try (simp[Kf]at e2;done)
    have:=h2.int;subst this
    dsimp only[Kf]at e2
    split at e2
    ·rename_i k n h0
     cases e2
     cases lo with
     |none=>have:=h1.none';subst this;cases e1;simp[Instr.sliceBounds,Km h0 (show n<=(m:Int) by omega)]
     |some d=>
      cases d <;> try (simp[Kf]at e1;done)
      have:=h1.int;subst this
      dsimp only[Kf]at e1
      split at e1
      ·rename_i k' n' h0'
       cases e1
       simp[Instr.sliceBounds,Km h0 (show n<=(m:Int) by omega),Km h0' (show n'<=(n.toNat:Int) by omega)]
      ·cases e1
    ·cases e2
  |some v=>
   have hv:=hmv v rfl
   cases hi with
   |none=>simp at hmx
   |some d=>
    cases d <;> try (simp[Kf]at e2;done)
    have:=h2.int;subst this
    dsimp only[Kf]at e2
    split at e2
    ·rename_i k n h0
     cases e2
     cases lo with
     |none=>have:=h1.none';subst this;cases e1;simp[Instr.sliceBounds,hv,Km h0 (show n<=(m:Int) by omega)]
     |some d=>
      cases d <;> try (simp[Kf]at e1;done)
      have:=h1.int;subst this
      dsimp only[Kf]at e1
      split at e1
      ·rename_i k' n' h0'
       cases e1
       simp[Instr.sliceBounds,hv,Km h0 (show n<=(m:Int) by omega),Km h0' (show n'<=(n.toNat:Int) by omega)]
      ·cases e1
    ·cases e2
 split at hd
 ·rename_i l0 h0 e1 e2
  split at hd
  ·rename_i hlh
   split at hd
   ·simp only[Uw,Prod.mk.injEq]at hd
    obtain⟨rfl,rfl,rfl⟩:=hd
    have:=h3.none'
    subst this
    refine⟨cap,key _ _ e1 e2 hlh.1 hlh.2 cap (by omega) (Uk _) (.inl rfl) (λ_=>rfl) (λv hv=>by cases hv),hlh.1,hlh.2,by omega,Uk _,λhx'=>?_,λ_=>rfl⟩
    simp only[Kv,Up]at hx'
    have:=hx hx'.1
    omega
   ·split at hd
    ·rename_i n hc'
     simp only[Uw,Prod.mk.injEq]at hd
     obtain⟨rfl,rfl,rfl⟩:=hd
     have:=h3.int
     subst this
     refine⟨h0,key _ _ e1 e2 hlh.1 hlh.2 h0 (Uk _) (by omega) (.inr ⟨rfl,hc'.1⟩) (λe=>by cases e) (λv hv=>?_),hlh.1,hlh.2,Uk _,by omega,λ_=>rfl,λe=>by cases e⟩
     cases hv
     rw[Km (by omega) (by omega)]
     congr 1;omega
    ·cases hd
   ·cases hd
  ·cases hd
 all_goals cases hd
theorem sliceAt_of {t:TypeId} {d:TypeDesc} (hu:P.underlying t=some d) (hn:∀n e,d≠.array n e) (x:Value) (lo hi mx:Option Value) (w:World):(Instr.sliceAt t x lo hi mx).run P w=(Instr.slice t x lo hi mx).run P w:=by
 simp only[Instr.sliceAt,Sem.run_bind,run_underlying hu,Result.andThen_ok]
theorem run_dSlice (hs:SR W C S) {t:TypeId} {x d:D} {lo hi mx:Option D} {low high max:Option Value} {v:Value} (hx:VR W C x v) (h1:OV W C lo low) (h2:OV W C hi high) (h3:OV W C mx max) (h:dSlice P S t x lo hi mx=some d):
  ∃u,(Instr.sliceAt t v low high max).run P W=.ok u W/\VR W C d u:=by
 unfold dSlice at h
 split at h
 ·rename_i s hu
  split at h
  ·have:=h3.none';subst this
   split at h
   ·rename_i l h' x' hd
    cases h
    cases hx with
    |str s=>
     obtain⟨m,hr,-⟩:=run_bounds (P:=P) (W:=W) (C:=C) (Uk s.size) (λ_=>rfl) h1 h2 h3 hd false
     refine⟨_,?_,.str _⟩
     rw[sliceAt_of hu (by simp)]
     simp[Instr.slice,run_underlying hu,hr]
   ·cases h
  ·cases h
 ·rename_i e hu
  split at h
  ·rename_i n b hz hd
   cases h
   cases hx with
   |nils=>
    obtain⟨l,h',x'⟩:=b
    obtain⟨m,hr,q1,q2,q3,q4,q5⟩:=run_bounds (P:=P) (W:=W) (C:=C) (Uk 0) (λ_=>rfl) h1 h2 h3 hd true
    have e1:l=0:=by omega
    have e2:h'=0:=by omega
    have e3:m=0:=by omega
    subst e1;subst e2;subst e3
    refine⟨_,?_,.nils⟩
    rw[sliceAt_of hu (by simp)]
    simp[Instr.slice,run_underlying hu,hr,Jg hz]
  ·cases h
 ·rename_i e sz es x' hu
  split at h
  ·rename_i hz
   split at h
   ·rename_i l h' y hd
    cases h
    have go:∀(a:Option Addr) (cap:Nat),es.length<=cap->(x'=true->cap=es.length)->(0<es.length->∃g b,a=some ⟨g,b,none⟩/\∀cap',h'-l<=cap'->(y=true->cap'=h'-l)->0<h'-l->VR W C (.sl sz ((es.drop l).take (h'-l)) y) (.slice (some ⟨g,b+l*sz,none⟩) (h'-l) cap'))->
      ∃u,(Instr.sliceAt t (.slice a es.length cap) low high max).run P W=.ok u W/\VR W C (.sl sz ((es.drop l).take (h'-l)) y) u:=by
     intro a cap hcap hxx hne
     obtain⟨m,hr,q1,q2,q3,q4,q5,q6⟩:=run_bounds (P:=P) (W:=W) (C:=C) hcap hxx h1 h2 h3 hd true
     rw[sliceAt_of hu (by simp)]
     by_cases hl:h'-l=0
     ·have e0:(es.drop l).take (h'-l)=[]:=by rw[hl];rfl
      refine⟨.slice (if m=l then a else a.map (·.add (l*sz))) (h'-l) (m-l),by simp[Instr.slice,run_underlying hu,hr,Jg hz],?_⟩
      rw[e0,hl]
      exact .sl0 (λhy=>by have:=q5 hy;omega)
     ·obtain⟨g,b,rfl,hv⟩:=hne (by omega)
      refine⟨.slice (some ⟨g,b+l*sz,none⟩) (h'-l) (m-l),?_,hv _ (by omega) (λhy=>by have:=q5 hy;omega) (by omega)⟩
      have:m≠l:=by omega
      simp[Instr.slice,run_underlying hu,hr,Jg hz,this,Jm]
    cases hx with
    |sl vs hp hg hcap hxx hss hcc ho hv=>
     rename_i g b cap
     refine go _ cap hcap hxx (λ_=>⟨g,b,rfl,λcap' hc' hy hpos=>?_⟩)
     have hb:=run_bounds (P:=P) (W:=W) (C:=C) hcap hxx h1 h2 h3 hd true
     obtain⟨m,hr,q1,q2,q3,q4,q5,q6⟩:=hb
     have hlen:((es.drop l).take (h'-l)).length=h'-l:=by simp;omega
     have hget:∀i e',((es.drop l).take (h'-l))[i]?=some e'->es[l+i]?=some e'/\i<h'-l:=by
      intro i e' he
      rw[List.getElem?_take]at he
      split at he
      ·exact⟨by simpa using he,by assumption⟩
      ·cases he
     have:=VR.sl (W:=W) (C:=C) (sz:=sz) (es:=(es.drop l).take (h'-l)) (x:=y) (g:=g) (b:=b+l*sz) (cap:=cap') (λi j=>vs (l+i) j) (by omega) hg (by omega) (λhy'=>by rw[hlen];exact hy hy')
      (λi e' he=>hss _ _ (hget i e' he).1) (λi j hi hj=>by
       rw[hlen]at hi
       have:=hcc (l+i) j (by omega) hj
       rw[Nat.add_mul]at this
       rw[<-this];congr 2;omega) (λi j e' c he hc=>ho _ _ _ _ (hget i e' he).1 hc) (λi j e' c he hc=>hv _ _ _ _ (hget i e' he).1 hc)
     rw[hlen]at this
     exact this
    |sl0 hxx=>exact go _ _ (Vt _) (λhy=>hxx hy) (λh=>by simp at h)
   ·cases h
  ·cases h
 ·rename_i e k i len x' hu
  split at h
  ·rename_i s rs hk
   split at h
   ·rename_i hz
    split at h
    ·rename_i l h' y hd
     cases hx with
     |os hr hl hxx hx' hx''=>
      rename_i g sz tot cap T
      obtain⟨m,hrun,q1,q2,q3,q4,q5,q6⟩:=run_bounds (P:=P) (W:=W) (C:=C) hl hxx h1 h2 h3 hd true
      obtain⟨⟨rfl,-⟩,-⟩:=hs.at hk (by simp) hr
      rw[sliceAt_of hu (by simp)]
      have hrun':(Instr.slice t (.slice (some ⟨g,i*s,none⟩) len cap) low high max).run P W=.ok (.slice (if m=l then some ⟨g,i*s,none⟩ else some ⟨g,i*s+l*s,none⟩) (h'-l) (m-l)) W:=by
       simp[Instr.slice,run_underlying hu,hrun,Jg hz,Jm]
      split at h
      ·rename_i hhl
       cases h
       refine⟨_,hrun',?_⟩
       rw[hhl.1,Nat.sub_self]
       exact .sl0 (λhy=>by have:=q5 hy;omega)
      ·split at h
       ·rename_i hhl hy
        cases h
        refine⟨_,hrun',?_⟩
        have e1:(if m=l then some (⟨g,i*s,none⟩:Addr) else some ⟨g,i*s+l*s,none⟩)=some ⟨g,(i+l)*s,none⟩:=by
         split
         ·have:l=0:=by omega
          subst this
          rfl
         ·rw[Nat.add_mul]
        rw[e1]
        refine .os hr (by omega) (λhyt=>by have:=q5 hyt;omega) (λhyf=>?_) ?_
        ·rw[hyf]at hy
         have:=q6 hyf
         have hx0:x'=false:=by simpa using hy
         rw[<-hx' hx0,this];congr 1;omega
        ·refine Vk (Va _ ?_) hx''
         omega
       ·cases h
    ·split at h
     ·rename_i hcd
      obtain⟨hx0,hz0,hmx,hhi,hil⟩:=hcd
      split at h
      ·rename_i l h' y hd
       split at h
       ·rename_i hlh
        cases h
        subst hx0
        cases hx with
        |os hr hl hxx hx' hx''=>
         rename_i g sz tot cap T
         obtain⟨⟨rfl,hes,-⟩,-⟩:=hs.at hk (by simp) hr
         have hmx':mx=none:=by simpa using hmx
         subst hmx'
         have h3':=h3.none'
         subst h3'
         obtain⟨d,rfl⟩:=Option.isSome_iff_exists.1 hhi
         have htot:=hx' rfl
         have hcap:rs.length<=i+cap:=Nat.le_of_mul_le_mul_right (by rw[htot];exact hes) hz0
         have hd':Kc cap false lo (some d) none=some (l,h',false):=dBounds_cap hd (by omega)
         obtain⟨m,hrun,q1,q2,q3,q4,q5,q6⟩:=run_bounds (P:=P) (W:=W) (C:=C) (x:=false) (Uk cap) (by simp) h1 h2 (OV.refl_none W C) hd' true
         rw[q6 (dBounds_x hd')]at hrun
         have hb:(Instr.sliceBounds true len cap low high none).run P W=.ok (l,h',cap) W:=by
          cases high with
          |none=>cases h2
          |some v=>exact hrun
         refine⟨.slice (some ⟨g,(i+l)*s,none⟩) (h'-l) (cap-l),?_,.os hr (by omega) (by simp) (λ_=>by rw[<-htot];congr 1;omega) (by rw[<-htot];exact Va _ (by omega))⟩
         rw[sliceAt_of hu (by simp)]
         have:cap≠l:=by omega
         simp[Instr.slice,run_underlying hu,hb,Jg hz,Jm,this,Nat.add_mul]
       ·cases h
      ·cases h
     ·split at h
      ·rename_i hc3
       cases h
       cases hx with
       |os hr hl hxx hx' hx''=>
        rename_i g sz tot cap T
        obtain⟨kl,nl,kh,nh,km,nm,rfl,rfl,rfl,c1,c2,c3,c4⟩:=dCut3_spec hc3
        have e1:=h1.int
        have e2:=h2.int
        have e3:=h3.int
        subst e1 e2 e3
        have hb:(Instr.sliceBounds true len cap (some (.int kl nl)) (some (.int kh nh)) (some (.int km nm))).run P W=.ok (nl.toNat,nh.toNat,nm.toNat) W:=by
         simp[Instr.sliceBounds,Km (show (0:Int)<=nm by omega) (show nm<=(cap:Int) by omega),Km (show (0:Int)<=nh by omega) (show nh<=(nm.toNat:Int) by omega),Km c1 (show nl<=(nh.toNat:Int) by omega)]
        refine⟨.slice (if nm.toNat=nl.toNat then some ⟨g,i*sz,none⟩ else some ((⟨g,i*sz,none⟩:Addr).add (nl.toNat*s))) (nh.toNat-nl.toNat) (nm.toNat-nl.toNat),?_,.undef _⟩
        rw[sliceAt_of hu (by simp)]
        simp[Instr.slice,run_underlying hu,hb,Jg hz]
      ·cases h
   ·cases h
  ·cases h
 ·rename_i e k i len cap hu
  split at h
  ·rename_i s rs hk
   split at h
   ·rename_i hz
    obtain⟨hz,hmx⟩:=hz
    split at h
    ·rename_i l h' y hd
     split at h
     ·rename_i hlc
      cases h
      cases hx with
      |osc hr hl hc=>
       rename_i g sz tot T
       obtain⟨⟨rfl,-⟩,-⟩:=hs.at hk (by simp) hr
       have hmx':mx=none:=by simpa using hmx
       subst hmx'
       have hb:(Instr.sliceBounds true len cap low high max).run P W=.ok (l,h',cap) W/\l<=h'/\h'<=cap:=by
        have h3':=h3.none'
        subst h3'
        cases hi with
        |none=>
         obtain⟨m,hrun,q1,q2,q3,q4,q5,q6⟩:=run_bounds (P:=P) (W:=W) (C:=C) (x:=false) hl (by simp) h1 h2 (OV.refl_none W C) hd true
         rw[q6 (dBounds_x hd)]at hrun
         exact⟨hrun,q1,by omega⟩
        |some d=>
         obtain⟨m,hrun,q1,q2,q3,q4,q5,q6⟩:=run_bounds (P:=P) (W:=W) (C:=C) (x:=false) (Uk cap) (by simp) h1 h2 (OV.refl_none W C) hd true
         rw[q6 (dBounds_x hd)]at hrun
         cases high with
         |none=>cases h2
         |some v=>exact⟨hrun,q1,q2⟩
       refine⟨.slice (some ⟨g,(i+l)*s,none⟩) (h'-l) (cap-l),?_,.osc hr (by omega) (by rw[<-hc];congr 1;omega)⟩
       rw[sliceAt_of hu (by simp)]
       have:cap≠l:=by omega
       simp[Instr.slice,run_underlying hu,hb.1,Jg hz,Jm,this,Nat.add_mul]
     ·cases h
    ·cases h
   ·cases h
  ·cases h
 ·cases h
theorem dEqs_run {d:Nat} {eq:TypeId->D->D->Option Bool} (heq:∀ {t:TypeId} {x y:D} {vx vy:Value} {b:Bool},eq t x y=some b->VR W C x vx->VR W C y vy->(Op.equalIn d t vx vy).run P W=.ok b W):
  ∀ {fs:List Field} {xs ys:List D} {vx vy:Array Value} {b:Bool},dEqs P eq fs xs ys=some b->VRs W C xs vx.toList->VRs W C ys vy.toList->(Op.eqFields d vx vy fs).run P W=.ok b W
 | [],xs,ys,vx,vy,b,h,_,_=>by simp[dEqs]at h;subst h;simp[Op.eqFields]
 |f::fs,xs,ys,vx,vy,b,h,hx,hy=>by
  unfold dEqs at h
  split at h
  ·rename_i hf
   simp only[Op.eqFields,hf,ne_eq,not_true,if_false]
   exact dEqs_run heq h hx hy
  ·rename_i hf
   split at h
   ·rename_i a a' h1 h2
    obtain⟨u,hu,hr⟩:=run_part' h1 hx W
    obtain⟨u',hu',hr'⟩:=run_part' h2 hy W
    split at h
    ·rename_i he
     have:=heq he hr hr'
     simp only[Op.eqFields,ne_eq,hf,Vo,if_true,Sem.run_bind,hu,Result.andThen_ok,hu',this,Bool.not_true,Ui,if_false]
     exact dEqs_run heq h hx hy
    ·rename_i he
     cases h
     have:=heq he hr hr'
     simp only[Op.eqFields,ne_eq,hf,Vo,if_true,Sem.run_bind,hu,Result.andThen_ok,hu',this,Bool.not_false,Sem.run_pure]
    ·cases h
   ·cases h
theorem dEqA_run {d:Nat} {e:TypeId} {c:Nat} {eq:TypeId->D->D->Option Bool} (heq:∀ {t:TypeId} {x y:D} {vx vy:Value} {b:Bool},eq t x y=some b->VR W C x vx->VR W C y vy->(Op.equalIn d t vx vy).run P W=.ok b W) {xs ys:List D} {vx vy:Array Value} (hx:VRs W C xs vx.toList) (hy:VRs W C ys vy.toList):
  ∀ {is:List Nat} {b:Bool},dEqA P eq e c xs ys is=some b->(Op.eqItems d e c vx vy is).run P W=.ok b W
 | [],b,h=>by simp[dEqA]at h;subst h;simp[Op.eqItems]
 |i::is,b,h=>by
  unfold dEqA at h
  split at h
  ·rename_i a a' h1 h2
   obtain⟨u,hu,hr⟩:=run_part' h1 hx W
   obtain⟨u',hu',hr'⟩:=run_part' h2 hy W
   split at h
   ·rename_i he
    have:=heq he hr hr'
    simp only[Op.eqItems,Sem.run_bind,hu,Result.andThen_ok,hu',this,Bool.not_true,Ui,if_false]
    exact dEqA_run heq hx hy h
   ·rename_i he
    cases h
    have:=heq he hr hr'
    simp only[Op.eqItems,Sem.run_bind,hu,Result.andThen_ok,hu',this,Bool.not_false,if_true,Sem.run_pure]
   ·cases h
  ·cases h
theorem run_dEq:∀ {d:Nat} {t:TypeId} {x y:D} {vx vy:Value} {b:Bool},dEq P d t x y=some b->VR W C x vx->VR W C y vy->(Op.equalIn d t vx vy).run P W=.ok b W
 |0,_,_,_,_,_,_,h,_,_=>by simp[dEq]at h
 |d+1,t,x,y,vx,vy,b,h,hx,hy=>by
  unfold dEq at h
  split at h
  case h_18 fs xs ys hu=>
   split at h
   ·cases h
   ·rename_i hheld
    obtain⟨vx',rfl,hxs⟩:=hx.of_agg
    obtain⟨vy',rfl,hys⟩:=hy.of_agg
    have hf:P.fieldsOf t=fs:=by simp[Program.fieldsOf,hu]
    rw[run_equalIn_struct W d t vx' vy' (by rw[hf];exact hu) (by simpa using hheld),hf]
    exact dEqs_run (λhe h1 h2=>run_dEq he h1 h2) h hxs hys
  case h_19 nn e xs ys hu=>
   split at h
   ·rename_i z hz
    obtain⟨vx',rfl,hxs⟩:=hx.of_agg
    obtain⟨vy',rfl,hys⟩:=hy.of_agg
    obtain⟨i,hi,rfl⟩:∃i,P.info? e=some i/\i.size=z:=by simpa [Yw,Ks] using hz
    rw[run_equalIn_array W d vx' vy' hu hi]
    have hc:P.cellsOf e=i.size:=by simp[Program.cellsOf,hi]
    rw[hc]
    exact dEqA_run (λhe h1 h2=>run_dEq he h1 h2) hxs hys h
   ·cases h
  case h_2 k a k' b' _ hu=>
   split at h
   ·rename_i hk
    cases h
    cases hx;cases hy
    simp[Op.equalIn,run_underlying hu,hk]
   ·cases h
  all_goals first
   | (rename_i hu;cases h;cases hx <;> cases hy <;> simp[Op.equalIn,run_underlying hu];done)
   |cases h
end
end Go.Proofs.YtaklebjoenophaaGreat.Dm
