/-
  The machine at slices.SortFunc of components.
-/
import Derived.Test.YtaklebjoenophaaGreatPtC
import Derived.Test.YtaklebjoenophaaGreatWq
import Derived.Sort.AssemblyPlain
set_option maxHeartbeats 64000000
set_option maxRecDepth 100000
set_option linter.unusedSimpArgs false
set_option linter.unusedVariables false
namespace Go.Proofs.YtaklebjoenophaaGreat.Dm
open Go Gw
def El:Type:={ x:Prt // 0<=x.fa/\x.fa<=1048576 }
instance:Inhabited El:=⟨⟨⟨0,0,0,0⟩,by decide⟩⟩
def vl (x:El):List D:=Prt.enc x.1
theorem vle (x:El):4<=(vl x).length:=Yt _
theorem vtk (x:El):List.take 4 (vl x)=vl x:=rfl
theorem vln (x:El):(vl x).length=4:=rfl
theorem von (x:El):(vl x).all D.one=true:=rfl
theorem vsf (x y:El):setFrom (vl x) 0 (vl y)=vl y:=rfl
namespace Srp
variable {S0 T : List Ob} {k : Nat} {d : Array El} {cf : D} {c : El -> El -> Int}
def rowS (d:Array El):List (List D):=d.toList.map vl
structure R (S0:List Ob) (k:Nat) (d:Array El) (T:List Ob):Prop where
 row:T[k]?=some (.row 4 (rowS d))
 old:∀j o,j≠k->S0[j]?=some o->T[j]?=some o
 len:S0.length<=T.length
def lt (c:El->El->Int) (x y:El):Bool:=decide (c x y<0)
def CmpOk (n0:Nat) (S0:List Ob) (k:Nat) (cf:D) (c:El->El->Int):Prop:=
 ∀n,n0<=n->∀(d:Array El) T,R S0 k d T->∀st x y,callV E (dcall E n) st T cf [.agg (vl x),.agg (vl y)]=some (.int .i64 (c x y),T)
theorem row_set {i:Nat} {y:El}:(rowS d).set i (vl y)=rowS (d.setIfInBounds i y):=by
 unfold rowS
 rw[Array.toList_setIfInBounds,List.map_set]
theorem R.put (h:R S0 k d T) {d':Array El}:R S0 k d' (T.set k (.row 4 (rowS d'))) where
 row:=by rw[Yo ((Ya.1 h.row).1)]
 old:=λj o hj ho=>by rw[Yc (Ne.symm hj)];exact h.old j o hj ho
 len:=by rw[Zg];exact h.len
theorem R.push (h:R S0 k d T) (o:Ob):R S0 k d (T++[o]) where
 row:=get_old h.row
 old:=λj o hj ho=>get_old (h.old j o hj ho)
 len:=by rw[Yd];exact Zu h.len (Nat.le_add_right _ _)
theorem R.lt (h:R S0 k d T):k<T.length:=(Ya.1 h.row).1
theorem pure_own {kk n:Nat} {x:Bool} {l:List D}:pureL (.os kk 0 n x::l)=false:=by simp[pureL_cons,D.pure]
theorem bang {i:Nat} (hi:i<d.size):d[i]?=some d[i]! :=by simp[hi]
theorem row_at {i:Nat} (hi:i<d.size):(rowS d)[i]?=some (vl d[i]!):=by
 unfold rowS
 rw[Zm,Yu,bang hi];rfl
theorem wc_asc {E:Env} {call:Call} {n:Nat} {x y z:Code} {a:List D} {S:List Ob} {Q:PostX}:WC (codeD E call n (.seq x (.seq y z)) a S) Q=WC (codeD E call n (.seq (.seq x y) z) a S) Q:=by
 rw[wc_seq,wc_seq,wc_seq]
 congr 1
 funext r b U
 cases r
 ·simp only[seqQ,wc_seq]
 ·rfl
 ·rfl
theorem swp_size {i j:Nat}:(Sort.swp d i j).size=d.size:=by simp[Sort.swp]
theorem ins_d {n n0 lo hi:Nat} {x:Bool} (hC:CmpOk n0 S0 k cf c) (hn:n0+d.size+2<=n) (hab:lo<=hi) (hb:hi<=d.size) (hz:d.size<=100000) (h:R S0 k d T):
  WO (dcall E (n+1) 158 [.os k 0 d.size x,.int .i64 lo,.int .i64 hi,cf] T) λ_ T'=>R S0 k (Sort.insertionSort (lt c) d lo hi) T':=by
 refine wo_dcall Tryz.func158 rfl (by decide) rfl 53 rfl (λa hal ha=>?_)
 have h0:a[0]?=some (.os k 0 d.size x):=ha 0 (by simp)
 have h1:a[1]?=some (.int .i64 lo):=ha 1 (by simp)
 have h2:a[2]?=some (.int .i64 hi):=ha 2 (by simp)
 have h3:a[3]?=some (cf):=ha 3 (by simp)
 clear ha
 simp(maxSteps:=1000000)(disch:=omega)only[push_cast,hal,h1,wrap_ok,↓WX,simprocAttr]
 refine wl_loop (λi a T'=>∃(d':Array El) (m:Nat),a.length=53/\a[0]?=some (.os k 0 d.size x)/\a[1]?=some (.int .i64 lo)/\a[2]?=some (.int .i64 hi)/\a[3]?=some (cf)/\a[8]?=some (.int .i64 m)/\m=lo+1+i/\d'.size=d.size/\R S0 k d' T'/\Sort.insertionSort (lt c) d lo hi=Sort.insOuter (lt c) lo hi m d') d.size ?_ (by omega) ?_
 ·refine⟨d,lo+1,?_⟩
  simp(maxSteps:=1000000)(disch:=omega)only[push_cast,hal,h0,h1,h2,h3,Int.natCast_add,Int.natCast_one,simprocAttr]
  exact⟨h,rfl⟩
 clear hal h0 h1 h2 h3 a
 rintro i a T' hi' ⟨d',m,hal,h0,h1,h2,h3,h8,hm,hs,hr,hv'⟩
 by_cases g:m<hi
 case neg=>
  rw[Sort.insOuter,if_neg g]at hv'
  simp(maxSteps:=1000000)(disch:=omega)only[push_cast,hal,h2,h8,g,Tryz.f158,↓WX,simprocAttr]
  rw[hv'];exact hr
 rw[Sort.insOuter,if_pos g]at hv'
 simp(maxSteps:=1000000)(disch:=omega)only[push_cast,hal,h2,h8,g,wc_wl,↓WX,simprocAttr]
 refine wl_loop (λi' a T'=>∃(d'':Array El) (j:Nat),a.length=53/\a[0]?=some (.os k 0 d.size x)/\a[1]?=some (.int .i64 lo)/\a[2]?=some (.int .i64 hi)/\a[3]?=some (cf)/\a[8]?=some (.int .i64 m)/\a[9]?=some (.int .i64 j)/\j+i'=m/\d''.size=d.size/\R S0 k d'' T'/\Sort.insInner (lt c) lo m d'=Sort.insInner (lt c) lo j d'') m ?_ (by omega) ?_
 ·refine⟨d',m,?_⟩
  simp(maxSteps:=1000000)(disch:=omega)only[push_cast,hal,h0,h1,h2,h3,h8,simprocAttr]
  exact⟨hs,hr⟩
 clear hal h0 h1 h2 h3 h8 a
 clear hr
 rintro i' a T' hi'' ⟨d'',j,hal,h0,h1,h2,h3,h8,h9,hj,hs',hr,hq⟩
 have done:∀e,Sort.insInner (lt c) lo j d''=d''->e=m+1->e=lo+1+(i+1)/\d''.size=d.size/\R S0 k d'' T'/\Sort.insertionSort (lt c) d lo hi=Sort.insOuter (lt c) lo hi e d'':=λe he h1=>by
  subst h1
  rw[hq,he]at hv'
  exact⟨by omega,hs',hr,hv'⟩
 by_cases g1:lo<j
 case neg=>
  have he:Sort.insInner (lt c) lo j d''=d'':=by
   cases j with
   |zero=>rfl
   |succ j=>rw[Sort.insInner,if_neg (by simp;intro;omega)]
  simp(maxSteps:=1000000)(disch:=omega)only[push_cast,Zx,hal,h0,h1,h2,h3,h8,h9,g1,wrap_ok,↓WX,simprocAttr]
  refine⟨by omega,d'',m+1,?_,?_⟩
  ·simp only[Int.natCast_add,Int.natCast_one]
  ·exact done _ he rfl
 obtain⟨j',hj'⟩:∃j',j=j'+1:=⟨j-1,by omega⟩
 have hw:IntKind.i64.wrap ((j:Int)-1)=(j':Int):=by rw[wrap_ok (by omega) (by omega)];omega
 have hjl:j<d.size:=by omega
 have hjl':j'<d.size:=by omega
 have l1:=row_at (d:=d'') (i:=j) (by omega)
 have l2:=row_at (d:=d'') (i:=j') (by omega)
 have l3:=row_at (d:=d''.setIfInBounds j d''[j']!) (i:=j') (by simp;omega)
 have cc:=λst=>hC n (by omega) d'' T' hr st d''[j]! d''[j']!
 by_cases e1:c d''[j]! d''[j']! <0
 case neg=>
  have he:Sort.insInner (lt c) lo j d''=d'':=by
   subst hj'
   rw[Sort.insInner,if_neg (by simp[lt];intro;omega)]
  simp(maxSteps:=1000000)(disch:=omega)only[push_cast,Zx,hal,h0,h1,h2,h3,h8,h9,g1,wrap_ok,hr.row,vtk,vln,hw,hjl,hjl',l1,l2,↓wo_callv,cc,e1,↓WX,simprocAttr]
  refine⟨by omega,d'',m+1,?_,?_⟩
  ·simp only[Int.natCast_add,Int.natCast_one]
  ·exact done _ he rfl
 have he:Sort.insInner (lt c) lo j d''=Sort.insInner (lt c) lo j' (Sort.swp d'' j j'):=by
  subst hj'
  rw[Sort.insInner,if_pos (by simp[lt];omega)]
 have hkl:=hr.lt
 simp(maxSteps:=1000000)(disch:=omega)only[push_cast,Zx,hal,h0,h1,h2,h3,h8,h9,g1,hr.row,vtk,vln,von,vsf,hw,hjl,hjl',l1,l2,↓wo_callv,cc,e1,l3,hkl,row_set,Xf,↓WX,simprocAttr]
 exact⟨by omega,Sort.swp d'' j j',j',rfl,by omega,by rw[swp_size];exact hs',hr.put,by rw[hq,he]⟩
end Srp
namespace Srp
variable {S0 T : List Ob} {k : Nat} {d : Array El} {cf : D} {c : El -> El -> Int}
theorem sift_d {n n0 lo hi first:Nat} {x:Bool} (hC:CmpOk n0 S0 k cf c) (hn:n0+d.size+2<=n) (hb:first+hi<=d.size) (hz:d.size<=100000) (hlo:lo<=100000) (h:R S0 k d T):
  WO (dcall E (n+1) 202 [.os k 0 d.size x,.int .i64 lo,.int .i64 hi,.int .i64 first,cf] T) λ_ T'=>R S0 k (Sort.siftDown (lt c) hi first lo d) T'/\(Sort.siftDown (lt c) hi first lo d).size=d.size:=by
 refine wo_dcall Tryz.func202 rfl (by decide) rfl 82 rfl (λa hal ha=>?_)
 have h0:a[0]?=some (.os k 0 d.size x):=ha 0 (by simp)
 have h1:a[1]?=some (.int .i64 lo):=ha 1 (by simp)
 have h2:a[2]?=some (.int .i64 hi):=ha 2 (by simp)
 have h3:a[3]?=some (.int .i64 first):=ha 3 (by simp)
 have h4:a[4]?=some (cf):=ha 4 (by simp)
 clear ha
 simp(maxSteps:=1000000)(disch:=omega)only[push_cast,hal,h1,↓WX,simprocAttr]
 refine wl_loop (λi a T'=>∃(d':Array El) (rt:Nat),a.length=82/\a[0]?=some (.os k 0 d.size x)/\a[2]?=some (.int .i64 hi)/\a[3]?=some (.int .i64 first)/\a[4]?=some (cf)/\a[10]?=some (.int .i64 rt)/\(i<=rt/\(i=0∨rt<hi)/\rt<=100000)/\d'.size=d.size/\R S0 k d' T'/\Sort.siftDown (lt c) hi first lo d=Sort.siftDown (lt c) hi first rt d') d.size ?_ (by omega) ?_
 ·refine⟨d,lo,?_⟩
  simp(maxSteps:=1000000)(disch:=omega)only[push_cast,hal,h0,h2,h3,h4,simprocAttr]
  exact⟨⟨Xb _,.inl trivial,hlo⟩,h⟩
 clear hal h0 h1 h2 h3 h4 a
 clear h
 rintro i a T' hi' ⟨d',rt,hal,h0,h2,h3,h4,h10,⟨hir,hrh,hrt⟩,hs,hr,hq⟩
 have stop:Sort.siftDown (lt c) hi first rt d'=d'->R S0 k (Sort.siftDown (lt c) hi first lo d) T'/\(Sort.siftDown (lt c) hi first lo d).size=d.size:=λe=>by
  rw[hq,e];exact⟨hr,hs⟩
 rw[wc_block]
 obtain⟨ch,hch⟩:∃ch,ch=2*rt+1:=⟨_,rfl⟩
 have w1:IntKind.i64.wrap (IntKind.i64.wrap (2*(rt:Int))+1)=(ch:Int):=by rw[wrap_ok (x:=2*(rt:Int)) (by omega) (by omega),wrap_ok (by omega) (by omega)];omega
 by_cases g:hi<=ch
 ·have e:Sort.siftDown (lt c) hi first rt d'=d':=by rw[Sort.siftDown,dif_pos (by omega)]
  simp(maxSteps:=1000000)(disch:=omega)only[push_cast,hal,h2,h10,w1,g,Xe,Int.ofNat_le,Tryz.f202,↓WX,simprocAttr]
  exact stop e
 have hrh':first+rt<d.size:=by omega
 refine wc_scut (λa T''=>T''=T'/\a.length=82/\a[0]?=some (.os k 0 d.size x)/\a[2]?=some (.int .i64 hi)/\a[3]?=some (.int .i64 first)/\a[4]?=some (cf)/\a[10]?=some (.int .i64 rt)/\a[11]?=some (.int .i64 ch)) ?_ ?_
 ·simp(maxSteps:=1000000)(disch:=omega)only[push_cast,hal,h0,h2,h3,h4,h10,w1,↓WX,simprocAttr]
 clear hal h0 h2 h3 h4 h10 a
 rintro a T'' ⟨rfl,hal,h0,h2,h3,h4,h10,h11⟩
 refine wc_scut (λa T=>T=T''/\a.length=82/\a[0]?=some (.os k 0 d.size x)/\a[2]?=some (.int .i64 hi)/\a[3]?=some (.int .i64 first)/\a[4]?=some (cf)/\a[10]?=some (.int .i64 rt)/\a[11]?=some (.int .i64 ch)) ?_ ?_
 ·simp(maxSteps:=1000000)(disch:=omega)only[push_cast,hal,h0,h2,h3,h4,h10,h11,g,Xe,Int.ofNat_le,↓WX,simprocAttr]
 clear hal h0 h2 h3 h4 h10 h11 a
 rintro a T' ⟨rfl,hal,h0,h2,h3,h4,h10,h11⟩
 obtain⟨p1,hp1⟩:∃p,p=first+ch:=⟨_,rfl⟩
 obtain⟨p2,hp2⟩:∃p,p=first+ch+1:=⟨_,rfl⟩
 obtain⟨ch2,hch2⟩:∃p,p=ch+1:=⟨_,rfl⟩
 have w2:IntKind.i64.wrap ((ch:Int)+1)=(ch2:Int):=by rw[wrap_ok (by omega) (by omega)];omega
 have w3:IntKind.i64.wrap ((first:Int)+(ch:Int))=(p1:Int):=by rw[wrap_ok (by omega) (by omega)];omega
 have w4:IntKind.i64.wrap ((p1:Int)+1)=(p2:Int):=by rw[wrap_ok (by omega) (by omega)];omega
 have b1:p1<d.size:=by omega
 have l1:=row_at (d:=d') (i:=p1) (by omega)
 have key:∃m,(m=if ch+1<hi/\lt c d'[p1]! d'[p2]! =true then ch2 else ch):=⟨_,rfl⟩
 obtain⟨m,hm⟩:=key
 refine wc_scut (λa T=>T=T'/\a.length=82/\a[0]?=some (.os k 0 d.size x)/\a[2]?=some (.int .i64 hi)/\a[3]?=some (.int .i64 first)/\a[4]?=some (cf)/\a[10]?=some (.int .i64 rt)/\a[11]?=some (.int .i64 m)) ?_ ?_
 ·by_cases g2:ch2<hi
  case neg=>
   rw[if_neg (by omega)]at hm
   simp(maxSteps:=1000000)(disch:=omega)only[push_cast,hal,h0,h2,h3,h4,h10,h11,w2,g2,hm,↓WX,simprocAttr]
  have b2:p2<d.size:=by omega
  have l2:=row_at (d:=d') (i:=p2) (by omega)
  have cc:=λst=>hC n (by omega) d' T' hr st d'[p1]! d'[p2]!
  by_cases e1:c d'[p1]! d'[p2]! <0
  ·rw[if_pos ⟨by omega,by simpa [lt] using e1⟩]at hm
   simp(maxSteps:=1000000)(disch:=omega)only[push_cast,hal,h0,h2,h3,h4,h10,h11,w2,w3,w4,g2,hm,hr.row,vtk,vln,b1,b2,l1,l2,↓wo_callv,cc,e1,↓WX,simprocAttr]
  ·rw[if_neg (by simp[lt,e1])]at hm
   simp(maxSteps:=1000000)(disch:=omega)only[push_cast,hal,h0,h2,h3,h4,h10,h11,w2,w3,w4,g2,hm,hr.row,vtk,vln,b1,b2,l1,l2,↓wo_callv,cc,e1,↓WX,simprocAttr]
 clear hal h0 h2 h3 h4 h10 h11 a
 clear l1
 rintro a T ⟨rfl,hal,h0,h2,h3,h4,h10,h11⟩
 have hmh:m<hi/\rt<m:=by
  split at hm <;> omega
 obtain⟨q1,hq1⟩:∃p,p=first+rt:=⟨_,rfl⟩
 obtain⟨q2,hq2⟩:∃p,p=first+m:=⟨_,rfl⟩
 have w5:IntKind.i64.wrap ((first:Int)+(rt:Int))=(q1:Int):=by rw[wrap_ok (by omega) (by omega)];omega
 have w6:IntKind.i64.wrap ((first:Int)+(m:Int))=(q2:Int):=by rw[wrap_ok (by omega) (by omega)];omega
 have b3:q1<d.size:=by omega
 have b4:q2<d.size:=by omega
 have l3:=row_at (d:=d') (i:=q1) (by omega)
 have l4:=row_at (d:=d') (i:=q2) (by omega)
 have l5:=row_at (d:=d'.setIfInBounds q1 d'[q2]!) (i:=q2) (by simp;omega)
 have cc:=λst=>hC n (by omega) d' T hr st d'[q1]! d'[q2]!
 have hu:Sort.siftDown (lt c) hi first rt d'=if lt c d'[q1]! d'[q2]! =true then Sort.siftDown (lt c) hi first m (Sort.swp d' q1 q2) else d':=by
  rw[Sort.siftDown,dif_neg (by omega)]
  subst hq1 hq2 hp1 hp2 hch2 hch
  by_cases g3:2*rt+1+1<hi/\lt c d'[first+(2*rt+1)]! d'[first+(2*rt+1)+1]! =true
  ·rw[if_pos g3]at hm
   subst hm
   rw[if_pos (by simpa using g3),dif_pos (by omega)]
   cases lt c d'[first+rt]! d'[first+(2*rt+1+1)]! <;> rfl
  ·rw[if_neg g3]at hm
   subst hm
   rw[if_neg (by simpa using g3)]
   cases lt c d'[first+rt]! d'[first+(2*rt+1)]! <;> rfl
 by_cases e1:c d'[q1]! d'[q2]! <0
 case neg=>
  rw[if_neg (by simp[lt,e1])]at hu
  simp(maxSteps:=1000000)(disch:=omega)only[push_cast,hal,h0,h3,h4,h10,h11,w5,w6,hr.row,vtk,vln,b3,b4,l3,l4,↓wo_callv,cc,e1,Tryz.f202,↓WX,simprocAttr]
  exact stop hu
 rw[if_pos (by simp[lt,e1])]at hu
 have hkl:=hr.lt
 simp(maxSteps:=1000000)(disch:=omega)only[push_cast,hal,h0,h2,h3,h4,h10,h11,w5,w6,hr.row,vtk,vln,von,vsf,b3,b4,l3,l4,↓wo_callv,cc,e1,l5,hkl,row_set,Xf,↓WX,simprocAttr]
 exact⟨by omega,Sort.swp d' q1 q2,m,rfl,⟨by omega,.inr (by omega),by omega⟩,by rw[swp_size];exact hs,hr.put,by rw[hq,hu]⟩
theorem heap_d {n n0 lo hi:Nat} {x:Bool} (hC:CmpOk n0 S0 k cf c) (hn:n0+d.size+4<=n) (hab:lo<hi) (hb:hi<=d.size) (hz:d.size<=100000) (h:R S0 k d T):
  WO (dcall E (n+1) 159 [.os k 0 d.size x,.int .i64 lo,.int .i64 hi,cf] T) λ_ T'=>R S0 k (Sort.heapSort (lt c) d lo hi) T':=by
 refine wo_dcall Tryz.func159 rfl (by decide) rfl 60 rfl (λa hal ha=>?_)
 have h0:a[0]?=some (.os k 0 d.size x):=ha 0 (by simp)
 have h1:a[1]?=some (.int .i64 lo):=ha 1 (by simp)
 have h2:a[2]?=some (.int .i64 hi):=ha 2 (by simp)
 have h3:a[3]?=some (cf):=ha 3 (by simp)
 clear ha
 obtain⟨ln,hln⟩:∃ln,ln=hi-lo:=⟨_,rfl⟩
 obtain⟨m,hm⟩:∃m,m=(ln-1) / 2:=⟨_,rfl⟩
 have w1:IntKind.i64.wrap ((hi:Int)-(lo:Int))=(ln:Int):=by rw[wrap_ok (by omega) (by omega)];omega
 have w2:IntKind.i64.wrap ((IntKind.i64.wrap ((ln:Int)-1)).tdiv 2)=(m:Int):=by
  rw[wrap_ok (x:=(ln:Int)-1) (by omega) (by omega),show ((ln:Int)-1)=((ln-1:Nat):Int) by omega,show (2:Int)=((2:Nat):Int) from rfl,<-Int.ofNat_tdiv,wrap_ok (by omega) (by omega),hm]
 have hhs:Sort.heapSort (lt c) d lo hi=Sort.heapPop (lt c) lo ln (Sort.heapBuild (lt c) ln lo (m+1) d):=by rw[Sort.heapSort,hm,hln]
 rw[hhs]
 -- the heap is built
 rw[wc_asc,wc_asc]
 refine wc_scut (λa T'=>T'=T/\a.length=60/\a[0]?=some (.os k 0 d.size x)/\a[3]?=some (cf)/\a[8]?=some (.int .i64 lo)/\a[9]?=some (.int .i64 0)/\a[10]?=some (.int .i64 ln)) ?_ ?_
 ·simp(maxSteps:=1000000)(disch:=omega)only[push_cast,hal,h0,h1,h2,h3,w1,↓WX,simprocAttr]
 clear hal h0 h1 h2 h3 a
 rintro a T' ⟨rfl,hal,h0,h3,h8,h9,h10⟩
 refine wc_scut (λa T'=>∃d':Array El,a.length=60/\a[0]?=some (.os k 0 d.size x)/\a[3]?=some (cf)/\a[8]?=some (.int .i64 lo)/\a[9]?=some (.int .i64 0)/\a[10]?=some (.int .i64 ln)/\d'.size=d.size/\R S0 k d' T'/\Sort.heapBuild (lt c) ln lo (m+1) d=d') ?_ ?_
 ·simp(maxSteps:=1000000)(disch:=omega)only[push_cast,hal,h10,w2,↓WX,simprocAttr]
  refine wl_loop (λi a T'=>∃(d':Array El) (j:Nat),a.length=60/\a[0]?=some (.os k 0 d.size x)/\a[3]?=some (cf)/\a[8]?=some (.int .i64 lo)/\a[9]?=some (.int .i64 0)/\a[10]?=some (.int .i64 ln)/\a[11]?=some (.int .i64 ((j:Int)-1))/\j+i=m+1/\d'.size=d.size/\R S0 k d' T'/\Sort.heapBuild (lt c) ln lo (m+1) d=Sort.heapBuild (lt c) ln lo j d') (m+1) ?_ (by omega) ?_
  ·refine⟨d,m+1,?_⟩
   simp(maxSteps:=1000000)(disch:=omega)only[push_cast,hal,h0,h3,h8,h9,h10,Int.natCast_add,Int.natCast_one,Int.add_sub_cancel,simprocAttr]
   exact h
  clear hal h0 h3 h8 h9 h10 a
  rintro i a T2 hi' ⟨d',j,hal,h0,h3,h8,h9,h10,h11,hj,hs,hr,hq⟩
  cases j with
  |zero=>
   have g:¬(0:Int)<=((0:Nat):Int)-1:=by omega
   simp(maxSteps:=1000000)(disch:=omega)only[push_cast,hal,h0,h3,h8,h9,h10,h11,Xe,↓WX,simprocAttr]
   exact⟨d',hs,hr,hq⟩
  |succ j=>
   rw[show (((j+1:Nat):Int)-1)=(j:Int) by omega]at h11
   obtain⟨_,T3,hT3,r3,s3⟩:=sift_d (n:=n-1) (lo:=j) (hi:=ln) (first:=lo) (x:=x) hC (by omega) (by omega) (by omega) (by omega) hr
   rw[show n-1+1=n by omega,hs]at hT3
   have hcall:=(callD_own (f:=202) rfl pure_own).trans hT3
   simp(maxSteps:=1000000)(disch:=omega)only[push_cast,hal,h0,h3,h8,h9,h10,h11,Xe,hcall,wrap_ok,↓WX,simprocAttr]
   exact⟨by omega,_,j,rfl,by omega,by rw[s3];exact hs,r3,by rw[hq,Sort.heapBuild]⟩
 clear hal h0 h3 h8 h9 h10 a
 clear h
 rintro a T2 ⟨d1,hal,h0,h3,h8,h9,h10,hs1,hr1,hq1⟩
 rw[hq1]
 clear hq1 hhs
 obtain⟨l1,hl1⟩:∃l1,ln=l1+1:=⟨ln-1,by omega⟩
 have w3:IntKind.i64.wrap ((ln:Int)-1)=(ln:Int)-1:=by rw[wrap_ok (by omega) (by omega)]
 simp(maxSteps:=1000000)(disch:=omega)only[push_cast,hal,h10,w3,wc_wl,↓WX,simprocAttr]
 refine wl_loop (λi a T'=>∃(d':Array El) (j:Nat),a.length=60/\a[0]?=some (.os k 0 d.size x)/\a[3]?=some (cf)/\a[8]?=some (.int .i64 lo)/\a[9]?=some (.int .i64 0)/\a[12]?=some (.int .i64 ((j:Int)-1))/\j+i=ln/\d'.size=d.size/\R S0 k d' T'/\Sort.heapPop (lt c) lo ln d1=Sort.heapPop (lt c) lo j d') ln ?_ (by omega) ?_
 ·refine⟨d1,ln,?_⟩
  simp(maxSteps:=1000000)(disch:=omega)only[push_cast,hal,h0,h3,h8,h9,simprocAttr]
  exact⟨hs1,hr1⟩
 clear hal h0 h3 h8 h9 h10 a
 clear hr1 hs1
 rintro i a T2 hi' ⟨d',j,hal,h0,h3,h8,h9,h12,hj,hs,hr,hq⟩
 cases j with
 |zero=>
  have g:¬(0:Int)<=((0:Nat):Int)-1:=by omega
  simp(maxSteps:=1000000)(disch:=omega)only[push_cast,hal,h12,Xe,Tryz.f159,↓WX,simprocAttr]
  rw[hq,Sort.heapPop];exact hr
 |succ j=>
  rw[show (((j+1:Nat):Int)-1)=(j:Int) by omega]at h12
  obtain⟨p,hp⟩:∃p,p=lo+j:=⟨_,rfl⟩
  have w4:IntKind.i64.wrap ((lo:Int)+(j:Int))=(p:Int):=by rw[wrap_ok (by omega) (by omega)];omega
  have b1:lo<d.size:=by omega
  have b2:p<d.size:=by omega
  have i1:=row_at (d:=d') (i:=lo) (by omega)
  have i2:=row_at (d:=d') (i:=p) (by omega)
  have i3:=row_at (d:=d'.setIfInBounds lo d'[p]!) (i:=p) (by simp;omega)
  have hkl:=hr.lt
  have hr2:R S0 k (Sort.swp d' lo p) _:=hr.put
  obtain⟨_,T3,hT3,r3,s3⟩:=sift_d (n:=n-1) (lo:=0) (hi:=j) (first:=lo) (x:=x) hC (by rw[swp_size];omega) (by rw[swp_size];omega) (by rw[swp_size];omega) (by omega) hr2
  rw[show n-1+1=n by omega,swp_size,hs]at hT3
  have hcall:=(callD_own (f:=202) rfl pure_own).trans hT3
  simp only[Sort.swp,Int.natCast_zero]at hcall
  simp(maxSteps:=1000000)(disch:=omega)only[push_cast,hal,h0,h3,h8,h9,h12,Xe,w4,hr.row,vtk,vln,von,vsf,b1,b2,i1,i2,i3,hkl,row_set,Xf,hcall,wrap_ok,↓WX,simprocAttr]
  exact⟨by omega,_,j,rfl,by omega,by rw[s3,swp_size];exact hs,r3,by rw[hq,Sort.heapPop,hp]⟩
theorem rev_d {n lo hi:Nat} {x:Bool} (hn:d.size+2<=n) (hab:lo<hi) (hb:hi<=d.size) (hz:d.size<=100000) (h:R S0 k d T):
  WO (dcall E (n+1) 162 [.os k 0 d.size x,.int .i64 lo,.int .i64 hi,cf] T) λ_ T'=>R S0 k (Sort.reverseRange d lo hi) T'/\(Sort.reverseRange d lo hi).size=d.size:=by
 refine wo_dcall Tryz.func162 rfl (by decide) rfl 34 rfl (λa hal ha=>?_)
 have h0:a[0]?=some (.os k 0 d.size x):=ha 0 (by simp)
 have h1:a[1]?=some (.int .i64 lo):=ha 1 (by simp)
 have h2:a[2]?=some (.int .i64 hi):=ha 2 (by simp)
 have h3:a[3]?=some (cf):=ha 3 (by simp)
 clear ha
 obtain⟨h1',hh1⟩:∃h1,hi=h1+1:=⟨hi-1,by omega⟩
 have w1:IntKind.i64.wrap ((hi:Int)-1)=(h1':Int):=by rw[wrap_ok (by omega) (by omega)];omega
 simp(maxSteps:=1000000)(disch:=omega)only[push_cast,hal,h1,h2,w1,↓WX,simprocAttr]
 refine wl_loop (λi a T'=>∃(d':Array El) (p q:Nat),a.length=34/\a[0]?=some (.os k 0 d.size x)/\a[8]?=some (.int .i64 p)/\a[9]?=some (.int .i64 q)/\(p=lo+i/\q+i=h1'/\i<=h1')/\d'.size=d.size/\R S0 k d' T'/\Sort.reverseRange d lo hi=Sort.reverseLoop p q d') h1' ?_ (by omega) ?_
 ·refine⟨d,lo,h1',?_⟩
  simp(maxSteps:=1000000)(disch:=omega)only[push_cast,hal,h0,simprocAttr]
  exact⟨by omega,h,by rw[Sort.reverseRange,hh1,Nat.add_sub_cancel]⟩
 clear hal h0 h1 h2 h3 a
 rintro i a T2 hi' ⟨d',p,q,hal,h0,h8,h9,⟨hp,hq,hi2⟩,hs,hr,he⟩
 by_cases g:p<q
 case neg=>
  rw[Sort.reverseLoop,if_neg g]at he
  simp(maxSteps:=1000000)(disch:=omega)only[push_cast,hal,h8,h9,g,Tryz.f162,↓WX,simprocAttr]
  rw[he];exact⟨hr,hs⟩
 rw[Sort.reverseLoop,if_pos g]at he
 obtain⟨q',hq'⟩:∃q',q=q'+1:=⟨q-1,by omega⟩
 have w2:IntKind.i64.wrap ((q:Int)-1)=(q':Int):=by rw[wrap_ok (by omega) (by omega)];omega
 have b1:p<d.size:=by omega
 have b2:q<d.size:=by omega
 have i1:=row_at (d:=d') (i:=p) (by omega)
 have i2:=row_at (d:=d') (i:=q) (by omega)
 have i3:=row_at (d:=d'.setIfInBounds p d'[q]!) (i:=q) (by simp;omega)
 have hkl:=hr.lt
 simp(maxSteps:=1000000)(disch:=omega)only[push_cast,hal,h0,h8,h9,g,w2,hr.row,vtk,vln,von,vsf,b1,b2,i1,i2,i3,hkl,row_set,Xf,wrap_ok,↓WX,simprocAttr]
 exact⟨by omega,Sort.swp d' p q,p+1,q',by simp only[Int.natCast_add,Int.natCast_one],rfl,⟨by omega,by omega,by omega⟩,by rw[swp_size];exact hs,hr.put,by rw[he,hq',Nat.add_sub_cancel]⟩
end Srp
namespace Srp
variable {S0 T : List Ob} {k : Nat} {d : Array El} {cf : D} {c : El -> El -> Int}
theorem partEq_d {n n0 lo hi pv:Nat} {x:Bool} (hC:CmpOk n0 S0 k cf c) (hn:n0+d.size+4<=n) (hp:lo<=pv) (hph:pv<hi) (hb:hi<=d.size) (hz:d.size<=100000) (h:R S0 k d T):
  WO (dcall E (n+1) 164 [.os k 0 d.size x,.int .i64 lo,.int .i64 hi,.int .i64 pv,cf] T) λr T'=>r=.int .i64 (Sort.partitionEqual (lt c) d lo hi pv).1/\R S0 k (Sort.partitionEqual (lt c) d lo hi pv).2 T'/\(Sort.partitionEqual (lt c) d lo hi pv).2.size=d.size:=by
 refine wo_dcall Tryz.func164 rfl (by decide) rfl 90 rfl (λa hal ha=>?_)
 have h0:a[0]?=some (.os k 0 d.size x):=ha 0 (by simp)
 have h1:a[1]?=some (.int .i64 lo):=ha 1 (by simp)
 have h2:a[2]?=some (.int .i64 hi):=ha 2 (by simp)
 have h3:a[3]?=some (.int .i64 pv):=ha 3 (by simp)
 have h4:a[4]?=some (cf):=ha 4 (by simp)
 clear ha
 obtain⟨i0,hi0⟩:∃i0,i0=lo+1:=⟨_,rfl⟩
 obtain⟨j0,hj0⟩:∃j0,hi=j0+1:=⟨hi-1,by omega⟩
 have w1:IntKind.i64.wrap ((lo:Int)+1)=(i0:Int):=by rw[wrap_ok (by omega) (by omega)];omega
 have w2:IntKind.i64.wrap ((hi:Int)-1)=(j0:Int):=by rw[wrap_ok (by omega) (by omega)];omega
 obtain⟨d1,hd1⟩:∃d1,d1=Sort.swp d lo pv:=⟨_,rfl⟩
 have hP:Sort.partitionEqual (lt c) d lo hi pv=Sort.partEqLoop (lt c) lo i0 j0 d1:=by rw[Sort.partitionEqual,hj0,hi0,hd1,Nat.add_sub_cancel]
 rw[hP]
 have hs1:d1.size=d.size:=by rw[hd1,swp_size]
 rw[wc_asc,wc_asc]
 refine wc_scut (λa T'=>a.length=90/\a[0]?=some (.os k 0 d.size x)/\a[1]?=some (.int .i64 lo)/\a[4]?=some (cf)/\a[11]?=some (.int .i64 i0)/\a[12]?=some (.int .i64 j0)/\R S0 k d1 T') ?_ ?_
 ·have hr:=h
  have b1:lo<d.size:=by omega
  have b2:pv<d.size:=by omega
  have l1:=row_at (d:=d) (i:=lo) (by omega)
  have l2:=row_at (d:=d) (i:=pv) (by omega)
  have l3:=row_at (d:=d.setIfInBounds lo d[pv]!) (i:=pv) (by simp;omega)
  have hkl:=hr.lt
  simp(maxSteps:=1000000)(disch:=omega)only[push_cast,hal,h0,h1,h2,h3,h4,w1,w2,hr.row,vtk,vln,von,vsf,b1,b2,l1,l2,l3,hkl,row_set,Xf,↓WX,simprocAttr]
  rw[hd1];exact hr.put
 clear hal h0 h1 h2 h3 h4 a
 clear h
 rintro a T0 ⟨hal,h0,h1,h4,h11,h12,hr0⟩
 refine wc_scut (λa T'=>∃r:Nat×Array El,a.length=90/\a[11]?=some (.int .i64 r.1)/\R S0 k r.2 T'/\r.2.size=d.size/\Sort.partEqLoop (lt c) lo i0 j0 d1=r) ?_ ?_
 case refine_2=>
  clear hal h0 h1 h4 h11 h12 hr0 a
  rintro a T' ⟨r,hal,h11,hr,hs,hq⟩
  simp(maxSteps:=1000000)(disch:=omega)only[push_cast,hal,h11,Tryz.f164,↓WX,simprocAttr]
  rw[hq];exact⟨rfl,hr,hs⟩
 simp(maxSteps:=1000000)(disch:=omega)only[push_cast,↓WX]
 refine wl_loop (λr a T'=>∃(d2:Array El) (i j:Nat),a.length=90/\a[0]?=some (.os k 0 d.size x)/\a[1]?=some (.int .i64 lo)/\a[4]?=some (cf)/\a[11]?=some (.int .i64 i)/\a[12]?=some (.int .i64 j)/\(i0+r<=i/\j<=j0)/\d2.size=d.size/\R S0 k d2 T'/\Sort.partEqLoop (lt c) lo i0 j0 d1=Sort.partEqLoop (lt c) lo i j d2) d.size ?_ (by omega) ?_
 ·refine⟨d1,i0,j0,?_⟩
  simp(maxSteps:=1000000)(disch:=omega)only[push_cast,hal,h0,h1,h4,h11,h12]
  exact⟨by omega,hs1,hr0⟩
 clear hal h0 h1 h4 h11 h12 a
 clear hr0 T0
 rintro rr a T1 hi1 ⟨d2,i,j,hal,h0,h1,h4,h11,h12,⟨hri,hjj⟩,hs2,hr,hq⟩
 rw[wc_block]
 have hresi2:∃r,r=Sort.scanUp (λx=> !lt c d2[lo]! x) d2 j i:=⟨_,rfl⟩
 obtain⟨i2,hdi2⟩:=hresi2
 refine wc_scut (λa T'=>T'=T1/\a.length=90/\a[0]?=some (.os k 0 d.size x)/\a[1]?=some (.int .i64 lo)/\a[4]?=some (cf)/\a[11]?=some (.int .i64 i2)/\a[12]?=some (.int .i64 j)) ?_ ?_
 ·simp(maxSteps:=1000000)(disch:=omega)only[push_cast,↓WX]
  refine wl_loop (λr a T'=>∃u:Nat,a.length=90/\a[0]?=some (.os k 0 d.size x)/\a[1]?=some (.int .i64 lo)/\a[4]?=some (cf)/\a[11]?=some (.int .i64 u)/\a[12]?=some (.int .i64 j)/\T'=T1/\(u=i+r)/\i2=Sort.scanUp (λx=> !lt c d2[lo]! x) d2 j u) d.size ?_ (by omega) ?_
  ·refine⟨i,?_⟩
   simp(maxSteps:=1000000)(disch:=omega)only[push_cast,hal,h0,h1,h4,h11,h12]
   exact hdi2
  clear hal h0 h1 h4 h11 h12 a
  rintro r a T' hi' ⟨u,hal,h0,h1,h4,h11,h12,rfl,hu,hq⟩
  by_cases g:u<=j
  case neg=>
   rw[Sort.scanUp,if_neg (by simp[g])]at hq
   simp(maxSteps:=1000000)(disch:=omega)only[push_cast,hal,h0,h1,h4,h11,h12,g,Int.ofNat_le,hq,↓WX,simprocAttr]
  have b1:u<d.size:=by omega
  rw[Sort.scanUp]at hq
  have b2:lo<d.size:=by omega
  have l1:=row_at (d:=d2) (i:=u) (by omega)
  have l2:=row_at (d:=d2) (i:=lo) (by omega)
  have cc:=λst=>hC n (by omega) d2 T' hr st d2[lo]! d2[u]!
  by_cases e1:c d2[lo]! d2[u]! <0
  ·rw[if_neg (by simp[lt,e1])]at hq
   simp(maxSteps:=1000000)(disch:=omega)only[push_cast,hal,h0,h1,h4,h11,h12,g,Int.ofNat_le,hr.row,vtk,vln,b1,b2,l1,l2,↓wo_callv,cc,e1,hq,↓WX,simprocAttr]
  ·rw[if_pos (by simp[lt,g,e1])]at hq
   simp(maxSteps:=1000000)(disch:=omega)only[push_cast,hal,h0,h1,h4,h11,h12,g,Int.ofNat_le,hr.row,vtk,vln,b1,b2,l1,l2,↓wo_callv,cc,e1,wrap_ok,↓WX,simprocAttr]
   exact⟨by omega,u+1,by simp only[Int.natCast_add,Int.natCast_one],by omega,hq⟩
 clear hal h0 h1 h4 h11 h12 a
 rintro a T2 ⟨rfl,hal,h0,h1,h4,h11,h12⟩
 have hi2:i<=i2:=by rw[hdi2];exact Sort.scanUp_ge _ _ _ _
 have hresj2:∃r,r=Sort.scanDown (λx=>lt c d2[lo]! x) d2 i2 j:=⟨_,rfl⟩
 obtain⟨j2,hdj2⟩:=hresj2
 refine wc_scut (λa T'=>T'=T2/\a.length=90/\a[0]?=some (.os k 0 d.size x)/\a[1]?=some (.int .i64 lo)/\a[4]?=some (cf)/\a[11]?=some (.int .i64 i2)/\a[12]?=some (.int .i64 j2)) ?_ ?_
 ·simp(maxSteps:=1000000)(disch:=omega)only[push_cast,↓WX]
  refine wl_loop (λr a T'=>∃u:Nat,a.length=90/\a[0]?=some (.os k 0 d.size x)/\a[1]?=some (.int .i64 lo)/\a[4]?=some (cf)/\a[11]?=some (.int .i64 i2)/\a[12]?=some (.int .i64 u)/\T'=T2/\(u+r=j)/\j2=Sort.scanDown (λx=>lt c d2[lo]! x) d2 i2 u) d.size ?_ (by omega) ?_
  ·refine⟨j,?_⟩
   simp(maxSteps:=1000000)(disch:=omega)only[push_cast,hal,h0,h1,h4,h11,h12]
   exact hdj2
  clear hal h0 h1 h4 h11 h12 a
  rintro r a T' hi' ⟨u,hal,h0,h1,h4,h11,h12,rfl,hu,hq⟩
  cases u with
  |zero=>
   have g:¬i2<=0:=by omega
   have g':¬(i2:Int)<=((0:Nat):Int):=by omega
   rw[Sort.scanDown]at hq
   simp only[Int.natCast_zero]at h12 g'
   simp(maxSteps:=1000000)(disch:=omega)only[push_cast,hal,h0,h1,h4,h11,h12,g',hq,Int.natCast_zero,↓WX,simprocAttr]
  |succ u'=>
  rw[Sort.scanDown]at hq
  obtain⟨u,hu1⟩:∃u,u=u'+1:=⟨_,rfl⟩
  rw[<-hu1]at h12 hq hu
  have w0:IntKind.i64.wrap ((u:Int)-1)=(u':Int):=by rw[wrap_ok (by omega) (by omega)];omega
  by_cases g:i2<=u
  case neg=>
   rw[if_neg (by simp[g])]at hq
   simp(maxSteps:=1000000)(disch:=omega)only[push_cast,hal,h0,h1,h4,h11,h12,g,Int.ofNat_le,hq,↓WX,simprocAttr]
  have b1:u<d.size:=by omega
  have b2:lo<d.size:=by omega
  have l1:=row_at (d:=d2) (i:=u) (by omega)
  have l2:=row_at (d:=d2) (i:=lo) (by omega)
  have cc:=λst=>hC n (by omega) d2 T' hr st d2[lo]! d2[u]!
  by_cases e1:c d2[lo]! d2[u]! <0
  ·rw[if_pos (by simp[lt,g,e1])]at hq
   simp(maxSteps:=1000000)(disch:=omega)only[push_cast,hal,h0,h1,h4,h11,h12,g,Int.ofNat_le,hr.row,vtk,vln,b1,b2,l1,l2,↓wo_callv,cc,e1,w0,↓WX,simprocAttr]
   exact⟨by omega,u',rfl,by omega,hq⟩
  ·rw[if_neg (by simp[lt,e1])]at hq
   simp(maxSteps:=1000000)(disch:=omega)only[push_cast,hal,h0,h1,h4,h11,h12,g,Int.ofNat_le,hr.row,vtk,vln,b1,b2,l1,l2,↓wo_callv,cc,e1,hq,↓WX,simprocAttr]
 clear hal h0 h1 h4 h11 h12 a
 rintro a T3 ⟨rfl,hal,h0,h1,h4,h11,h12⟩
 have hj2:j2<=j:=by rw[hdj2];exact Sort.scanDown_le _ _ _ _
 have hU:=Sort.partEqLoop_eq (lt:=lt c) lo i j d2
 simp only[<-hdi2,<-hdj2]at hU
 by_cases g:j2<i2
 ·rw[if_pos g]at hU
  simp(maxSteps:=1000000)(disch:=omega)only[push_cast,Zx,hal,h11,h12,g,↓WX,simprocAttr]
  exact⟨(i2,d2),rfl,hr,hs2,by rw[hq,hU]⟩
 rw[if_neg g]at hU
 obtain⟨j3,hj3⟩:∃j3,j2=j3+1:=⟨j2-1,by omega⟩
 have w3:IntKind.i64.wrap ((j2:Int)-1)=(j3:Int):=by rw[wrap_ok (by omega) (by omega)];omega
 have b1:i2<d.size:=by omega
 have b2:j2<d.size:=by omega
 have l1:=row_at (d:=d2) (i:=i2) (by omega)
 have l2:=row_at (d:=d2) (i:=j2) (by omega)
 have l3:=row_at (d:=d2.setIfInBounds i2 d2[j2]!) (i:=j2) (by simp;omega)
 have hkl:=hr.lt
 simp(maxSteps:=1000000)(disch:=omega)only[push_cast,Zx,hal,h0,h1,h4,h11,h12,g,w3,wrap_ok,hr.row,vtk,vln,von,vsf,b1,b2,l1,l2,l3,hkl,row_set,Xf,↓WX,simprocAttr]
 exact⟨by omega,Sort.swp d2 i2 j2,i2+1,j3,by simp only[Int.natCast_add,Int.natCast_one],rfl,⟨by omega,by omega⟩,by rw[swp_size];exact hs2,hr.put,by rw[hq,hU,hj3,Nat.add_sub_cancel]⟩
theorem part_d {n n0 lo hi pv:Nat} {x:Bool} (hC:CmpOk n0 S0 k cf c) (hn:n0+d.size+4<=n) (hp:lo<=pv) (hph:pv<hi) (hb:hi<=d.size) (hz:d.size<=100000) (h:R S0 k d T):
  WO (dcall E (n+1) 165 [.os k 0 d.size x,.int .i64 lo,.int .i64 hi,.int .i64 pv,cf] T) λr T'=>r=.tup [.int .i64 (Sort.partition (lt c) d lo hi pv).1,.bool (Sort.partition (lt c) d lo hi pv).2.1]/\R S0 k (Sort.partition (lt c) d lo hi pv).2.2 T'/\(Sort.partition (lt c) d lo hi pv).2.2.size=d.size:=by
 refine wo_dcall Tryz.func165 rfl (by decide) rfl 178 rfl (λa hal ha=>?_)
 have h0:a[0]?=some (.os k 0 d.size x):=ha 0 (by simp)
 have h1:a[1]?=some (.int .i64 lo):=ha 1 (by simp)
 have h2:a[2]?=some (.int .i64 hi):=ha 2 (by simp)
 have h3:a[3]?=some (.int .i64 pv):=ha 3 (by simp)
 have h4:a[4]?=some (cf):=ha 4 (by simp)
 clear ha
 obtain⟨i0,hi0⟩:∃i0,i0=lo+1:=⟨_,rfl⟩
 obtain⟨j0,hj0⟩:∃j0,hi=j0+1:=⟨hi-1,by omega⟩
 have w1:IntKind.i64.wrap ((lo:Int)+1)=(i0:Int):=by rw[wrap_ok (by omega) (by omega)];omega
 have w2:IntKind.i64.wrap ((hi:Int)-1)=(j0:Int):=by rw[wrap_ok (by omega) (by omega)];omega
 obtain⟨d1,hd1⟩:∃d1,d1=Sort.swp d lo pv:=⟨_,rfl⟩
 have hs1:d1.size=d.size:=by rw[hd1,swp_size]
 rw[wc_asc,wc_asc]
 refine wc_scut (λa T'=>a.length=178/\a[0]?=some (.os k 0 d.size x)/\a[1]?=some (.int .i64 lo)/\a[4]?=some (cf)/\a[12]?=some (.int .i64 i0)/\a[13]?=some (.int .i64 j0)/\R S0 k d1 T') ?_ ?_
 ·have hr:=h
  have b1:lo<d.size:=by omega
  have b2:pv<d.size:=by omega
  have l1:=row_at (d:=d) (i:=lo) (by omega)
  have l2:=row_at (d:=d) (i:=pv) (by omega)
  have l3:=row_at (d:=d.setIfInBounds lo d[pv]!) (i:=pv) (by simp;omega)
  have hkl:=hr.lt
  simp(maxSteps:=1000000)(disch:=omega)only[push_cast,hal,h0,h1,h2,h3,h4,w1,w2,hr.row,vtk,vln,von,vsf,b1,b2,l1,l2,l3,hkl,row_set,Xf,↓WX,simprocAttr]
  rw[hd1];exact hr.put
 clear hal h0 h1 h2 h3 h4 a
 clear h
 rintro a T1 ⟨hal,h0,h1,h4,h12,h13,hr⟩
 have hresi1:∃r,r=Sort.scanUp (λx=>lt c x d1[lo]!) d1 j0 i0:=⟨_,rfl⟩
 obtain⟨i1,hdi1⟩:=hresi1
 refine wc_scut (λa T'=>T'=T1/\a.length=178/\a[0]?=some (.os k 0 d.size x)/\a[1]?=some (.int .i64 lo)/\a[4]?=some (cf)/\a[12]?=some (.int .i64 i1)/\a[13]?=some (.int .i64 j0)) ?_ ?_
 ·simp(maxSteps:=1000000)(disch:=omega)only[push_cast,↓WX]
  refine wl_loop (λr a T'=>∃u:Nat,a.length=178/\a[0]?=some (.os k 0 d.size x)/\a[1]?=some (.int .i64 lo)/\a[4]?=some (cf)/\a[12]?=some (.int .i64 u)/\a[13]?=some (.int .i64 j0)/\T'=T1/\(u=i0+r)/\i1=Sort.scanUp (λx=>lt c x d1[lo]!) d1 j0 u) d.size ?_ (by omega) ?_
  ·refine⟨i0,?_⟩
   simp(maxSteps:=1000000)(disch:=omega)only[push_cast,hal,h0,h1,h4,h12,h13]
   exact hdi1
  clear hal h0 h1 h4 h12 h13 a
  rintro r a T' hi' ⟨u,hal,h0,h1,h4,h12,h13,rfl,hu,hq⟩
  by_cases g:u<=j0
  case neg=>
   rw[Sort.scanUp,if_neg (by simp[g])]at hq
   simp(maxSteps:=1000000)(disch:=omega)only[push_cast,hal,h0,h1,h4,h12,h13,g,Int.ofNat_le,hq,↓WX,simprocAttr]
  have b1:u<d.size:=by omega
  rw[Sort.scanUp]at hq
  have b2:lo<d.size:=by omega
  have l1:=row_at (d:=d1) (i:=u) (by omega)
  have l2:=row_at (d:=d1) (i:=lo) (by omega)
  have cc:=λst=>hC n (by omega) d1 T' hr st d1[u]! d1[lo]!
  by_cases e1:c d1[u]! d1[lo]! <0
  ·rw[if_pos (by simp[lt,g,e1])]at hq
   simp(maxSteps:=1000000)(disch:=omega)only[push_cast,hal,h0,h1,h4,h12,h13,g,Int.ofNat_le,hr.row,vtk,vln,b1,b2,l1,l2,↓wo_callv,cc,e1,wrap_ok,↓WX,simprocAttr]
   exact⟨by omega,u+1,by simp only[Int.natCast_add,Int.natCast_one],by omega,hq⟩
  ·rw[if_neg (by simp[lt,e1])]at hq
   simp(maxSteps:=1000000)(disch:=omega)only[push_cast,hal,h0,h1,h4,h12,h13,g,Int.ofNat_le,hr.row,vtk,vln,b1,b2,l1,l2,↓wo_callv,cc,e1,hq,↓WX,simprocAttr]
 clear hal h0 h1 h4 h12 h13 a
 rintro a T2 ⟨rfl,hal,h0,h1,h4,h12,h13⟩
 have hi1:i0<=i1:=by rw[hdi1];exact Sort.scanUp_ge _ _ _ _
 have hresj1:∃r,r=Sort.scanDown (λx=> !lt c x d1[lo]!) d1 i1 j0:=⟨_,rfl⟩
 obtain⟨j1,hdj1⟩:=hresj1
 refine wc_scut (λa T'=>T'=T2/\a.length=178/\a[0]?=some (.os k 0 d.size x)/\a[1]?=some (.int .i64 lo)/\a[4]?=some (cf)/\a[12]?=some (.int .i64 i1)/\a[13]?=some (.int .i64 j1)) ?_ ?_
 ·simp(maxSteps:=1000000)(disch:=omega)only[push_cast,↓WX]
  refine wl_loop (λr a T'=>∃u:Nat,a.length=178/\a[0]?=some (.os k 0 d.size x)/\a[1]?=some (.int .i64 lo)/\a[4]?=some (cf)/\a[12]?=some (.int .i64 i1)/\a[13]?=some (.int .i64 u)/\T'=T2/\(u+r=j0)/\j1=Sort.scanDown (λx=> !lt c x d1[lo]!) d1 i1 u) d.size ?_ (by omega) ?_
  ·refine⟨j0,?_⟩
   simp(maxSteps:=1000000)(disch:=omega)only[push_cast,hal,h0,h1,h4,h12,h13]
   exact hdj1
  clear hal h0 h1 h4 h12 h13 a
  rintro r a T' hi' ⟨u,hal,h0,h1,h4,h12,h13,rfl,hu,hq⟩
  cases u with
  |zero=>
   have g:¬i1<=0:=by omega
   have g':¬(i1:Int)<=((0:Nat):Int):=by omega
   rw[Sort.scanDown]at hq
   simp only[Int.natCast_zero]at h13 g'
   simp(maxSteps:=1000000)(disch:=omega)only[push_cast,hal,h0,h1,h4,h12,h13,g',hq,Int.natCast_zero,↓WX,simprocAttr]
  |succ u'=>
  rw[Sort.scanDown]at hq
  obtain⟨u,hu1⟩:∃u,u=u'+1:=⟨_,rfl⟩
  rw[<-hu1]at h13 hq hu
  have w0:IntKind.i64.wrap ((u:Int)-1)=(u':Int):=by rw[wrap_ok (by omega) (by omega)];omega
  by_cases g:i1<=u
  case neg=>
   rw[if_neg (by simp[g])]at hq
   simp(maxSteps:=1000000)(disch:=omega)only[push_cast,hal,h0,h1,h4,h12,h13,g,Int.ofNat_le,hq,↓WX,simprocAttr]
  have b1:u<d.size:=by omega
  have b2:lo<d.size:=by omega
  have l1:=row_at (d:=d1) (i:=u) (by omega)
  have l2:=row_at (d:=d1) (i:=lo) (by omega)
  have cc:=λst=>hC n (by omega) d1 T' hr st d1[u]! d1[lo]!
  by_cases e1:c d1[u]! d1[lo]! <0
  ·rw[if_neg (by simp[lt,e1])]at hq
   simp(maxSteps:=1000000)(disch:=omega)only[push_cast,hal,h0,h1,h4,h12,h13,g,Int.ofNat_le,hr.row,vtk,vln,b1,b2,l1,l2,↓wo_callv,cc,e1,hq,↓WX,simprocAttr]
  ·rw[if_pos (by simp[lt,g,e1])]at hq
   simp(maxSteps:=1000000)(disch:=omega)only[push_cast,hal,h0,h1,h4,h12,h13,g,Int.ofNat_le,hr.row,vtk,vln,b1,b2,l1,l2,↓wo_callv,cc,e1,w0,↓WX,simprocAttr]
   exact⟨by omega,u',rfl,by omega,hq⟩
 clear hal h0 h1 h4 h12 h13 a
 rintro a T3 ⟨rfl,hal,h0,h1,h4,h12,h13⟩
 have hj1:j1<=j0:=by rw[hdj1];exact Sort.scanDown_le _ _ _ _
 have hU:Sort.partition (lt c) d lo hi pv=if j1<i1 then (j1,true,Sort.swp d1 j1 lo) else ((Sort.partLoop (lt c) lo (i1+1) (j1-1) (Sort.swp d1 i1 j1)).1,false,Sort.swp (Sort.partLoop (lt c) lo (i1+1) (j1-1) (Sort.swp d1 i1 j1)).2 (Sort.partLoop (lt c) lo (i1+1) (j1-1) (Sort.swp d1 i1 j1)).1 lo):=by
  unfold Sort.partition
  rw[hj0,Nat.add_sub_cancel,<-hd1,<-hi0]
  simp only[<-hdi1,<-hdj1]
 by_cases g:j1<i1
 ·rw[if_pos g]at hU
  rw[hU]
  have b1:j1<d.size:=by omega
  have b2:lo<d.size:=by omega
  have l1:=row_at (d:=d1) (i:=j1) (by omega)
  have l2:=row_at (d:=d1) (i:=lo) (by omega)
  have l3:=row_at (d:=d1.setIfInBounds j1 d1[lo]!) (i:=lo) (by simp;omega)
  have hkl:=hr.lt
  simp(maxSteps:=1000000)(disch:=omega)only[push_cast,Zx,hal,h0,h1,h12,h13,g,hr.row,vtk,vln,von,vsf,b1,b2,l1,l2,l3,hkl,row_set,Xf,Tryz.f165,↓WX,simprocAttr]
  exact⟨hr.put,by rw[swp_size];exact hs1⟩
 rw[if_neg g]at hU
 rw[hU]
 clear hU
 obtain⟨j2,hj2⟩:∃j2,j1=j2+1:=⟨j1-1,by omega⟩
 obtain⟨i2,hi2⟩:∃i2,i2=i1+1:=⟨_,rfl⟩
 rw[<-hi2,show j1-1=j2 by omega]
 have w3:IntKind.i64.wrap ((j1:Int)-1)=(j2:Int):=by rw[wrap_ok (by omega) (by omega)];omega
 have w4:IntKind.i64.wrap ((i1:Int)+1)=(i2:Int):=by rw[wrap_ok (by omega) (by omega)];omega
 obtain⟨d2,hd2⟩:∃d2,d2=Sort.swp d1 i1 j1:=⟨_,rfl⟩
 rw[<-hd2]
 have hs2:d2.size=d.size:=by rw[hd2,swp_size];exact hs1
 rw[wc_asc,wc_asc,wc_asc]
 refine wc_scut (λa T'=>a.length=178/\a[0]?=some (.os k 0 d.size x)/\a[1]?=some (.int .i64 lo)/\a[4]?=some (cf)/\a[12]?=some (.int .i64 i2)/\a[13]?=some (.int .i64 j2)/\R S0 k d2 T') ?_ ?_
 ·
  have b1:i1<d.size:=by omega
  have b2:j1<d.size:=by omega
  have l1:=row_at (d:=d1) (i:=i1) (by omega)
  have l2:=row_at (d:=d1) (i:=j1) (by omega)
  have l3:=row_at (d:=d1.setIfInBounds i1 d1[j1]!) (i:=j1) (by simp;omega)
  have hkl:=hr.lt
  simp(maxSteps:=1000000)(disch:=omega)only[push_cast,Zx,hal,h0,h1,h4,h12,h13,g,w3,w4,hr.row,vtk,vln,von,vsf,b1,b2,l1,l2,l3,hkl,row_set,Xf,↓WX,simprocAttr]
  rw[hd2];exact hr.put
 clear hal h0 h1 h4 h12 h13 a
 clear hr T3
 rintro a T4 ⟨hal,h0,h1,h4,h12,h13,hr⟩
 refine wc_scut (λa T'=>∃r:Nat×Array El,a.length=178/\a[0]?=some (.os k 0 d.size x)/\a[1]?=some (.int .i64 lo)/\a[13]?=some (.int .i64 r.1)/\R S0 k r.2 T'/\r.2.size=d.size/\r.1<d.size/\Sort.partLoop (lt c) lo i2 j2 d2=r) ?_ ?_
 case refine_2=>
  clear hal h0 h1 h4 h12 h13 hr a
  rintro a T' ⟨⟨p,d3⟩,hal,h0,h1,h13,hr,hs,hpl,hq⟩
  rw[hq]
  simp only at hr hs hpl h13
  have b1:p<d.size:=by omega
  have b2:lo<d.size:=by omega
  have l1:=row_at (d:=d3) (i:=p) (by omega)
  have l2:=row_at (d:=d3) (i:=lo) (by omega)
  have l3:=row_at (d:=d3.setIfInBounds p d3[lo]!) (i:=lo) (by simp;omega)
  have hkl:=hr.lt
  simp(maxSteps:=1000000)(disch:=omega)only[push_cast,hal,h0,h1,h13,hr.row,vtk,vln,von,vsf,b1,b2,l1,l2,l3,hkl,row_set,Xf,Tryz.f165,↓WX,simprocAttr]
  exact⟨hr.put,by rw[swp_size];exact hs⟩
 simp(maxSteps:=1000000)(disch:=omega)only[push_cast,↓WX]
 refine wl_loop (λr a T'=>∃(d3:Array El) (i j:Nat),a.length=178/\a[0]?=some (.os k 0 d.size x)/\a[1]?=some (.int .i64 lo)/\a[4]?=some (cf)/\a[12]?=some (.int .i64 i)/\a[13]?=some (.int .i64 j)/\(i2+r<=i/\j<=j2)/\d3.size=d.size/\R S0 k d3 T'/\Sort.partLoop (lt c) lo i2 j2 d2=Sort.partLoop (lt c) lo i j d3) d.size ?_ (by omega) ?_
 ·refine⟨d2,i2,j2,?_⟩
  simp(maxSteps:=1000000)(disch:=omega)only[push_cast,hal,h0,h1,h4,h12,h13]
  exact⟨by omega,hs2,hr⟩
 clear hal h0 h1 h4 h12 h13 a
 clear hr T4
 rintro rr a T1 hi1 ⟨d3,i,j,hal,h0,h1,h4,h12,h13,⟨hri,hjj⟩,hs3,hr,hq⟩
 rw[wc_block]
 have hresi3:∃r,r=Sort.scanUp (λx=>lt c x d3[lo]!) d3 j i:=⟨_,rfl⟩
 obtain⟨i3,hdi3⟩:=hresi3
 refine wc_scut (λa T'=>T'=T1/\a.length=178/\a[0]?=some (.os k 0 d.size x)/\a[1]?=some (.int .i64 lo)/\a[4]?=some (cf)/\a[12]?=some (.int .i64 i3)/\a[13]?=some (.int .i64 j)) ?_ ?_
 ·simp(maxSteps:=1000000)(disch:=omega)only[push_cast,↓WX]
  refine wl_loop (λr a T'=>∃u:Nat,a.length=178/\a[0]?=some (.os k 0 d.size x)/\a[1]?=some (.int .i64 lo)/\a[4]?=some (cf)/\a[12]?=some (.int .i64 u)/\a[13]?=some (.int .i64 j)/\T'=T1/\(u=i+r)/\i3=Sort.scanUp (λx=>lt c x d3[lo]!) d3 j u) d.size ?_ (by omega) ?_
  ·refine⟨i,?_⟩
   simp(maxSteps:=1000000)(disch:=omega)only[push_cast,hal,h0,h1,h4,h12,h13]
   exact hdi3
  clear hal h0 h1 h4 h12 h13 a
  rintro r a T' hi' ⟨u,hal,h0,h1,h4,h12,h13,rfl,hu,hq⟩
  by_cases g:u<=j
  case neg=>
   rw[Sort.scanUp,if_neg (by simp[g])]at hq
   simp(maxSteps:=1000000)(disch:=omega)only[push_cast,hal,h0,h1,h4,h12,h13,g,Int.ofNat_le,hq,↓WX,simprocAttr]
  have b1:u<d.size:=by omega
  rw[Sort.scanUp]at hq
  have b2:lo<d.size:=by omega
  have l1:=row_at (d:=d3) (i:=u) (by omega)
  have l2:=row_at (d:=d3) (i:=lo) (by omega)
  have cc:=λst=>hC n (by omega) d3 T' hr st d3[u]! d3[lo]!
  by_cases e1:c d3[u]! d3[lo]! <0
  ·rw[if_pos (by simp[lt,g,e1])]at hq
   simp(maxSteps:=1000000)(disch:=omega)only[push_cast,hal,h0,h1,h4,h12,h13,g,Int.ofNat_le,hr.row,vtk,vln,b1,b2,l1,l2,↓wo_callv,cc,e1,wrap_ok,↓WX,simprocAttr]
   exact⟨by omega,u+1,by simp only[Int.natCast_add,Int.natCast_one],by omega,hq⟩
  ·rw[if_neg (by simp[lt,e1])]at hq
   simp(maxSteps:=1000000)(disch:=omega)only[push_cast,hal,h0,h1,h4,h12,h13,g,Int.ofNat_le,hr.row,vtk,vln,b1,b2,l1,l2,↓wo_callv,cc,e1,hq,↓WX,simprocAttr]
 clear hal h0 h1 h4 h12 h13 a
 rintro a T2 ⟨rfl,hal,h0,h1,h4,h12,h13⟩
 have hi3:i<=i3:=by rw[hdi3];exact Sort.scanUp_ge _ _ _ _
 have hresj3:∃r,r=Sort.scanDown (λx=> !lt c x d3[lo]!) d3 i3 j:=⟨_,rfl⟩
 obtain⟨j3,hdj3⟩:=hresj3
 refine wc_scut (λa T'=>T'=T2/\a.length=178/\a[0]?=some (.os k 0 d.size x)/\a[1]?=some (.int .i64 lo)/\a[4]?=some (cf)/\a[12]?=some (.int .i64 i3)/\a[13]?=some (.int .i64 j3)) ?_ ?_
 ·simp(maxSteps:=1000000)(disch:=omega)only[push_cast,↓WX]
  refine wl_loop (λr a T'=>∃u:Nat,a.length=178/\a[0]?=some (.os k 0 d.size x)/\a[1]?=some (.int .i64 lo)/\a[4]?=some (cf)/\a[12]?=some (.int .i64 i3)/\a[13]?=some (.int .i64 u)/\T'=T2/\(u+r=j)/\j3=Sort.scanDown (λx=> !lt c x d3[lo]!) d3 i3 u) d.size ?_ (by omega) ?_
  ·refine⟨j,?_⟩
   simp(maxSteps:=1000000)(disch:=omega)only[push_cast,hal,h0,h1,h4,h12,h13]
   exact hdj3
  clear hal h0 h1 h4 h12 h13 a
  rintro r a T' hi' ⟨u,hal,h0,h1,h4,h12,h13,rfl,hu,hq⟩
  cases u with
  |zero=>
   have g:¬i3<=0:=by omega
   have g':¬(i3:Int)<=((0:Nat):Int):=by omega
   rw[Sort.scanDown]at hq
   simp only[Int.natCast_zero]at h13 g'
   simp(maxSteps:=1000000)(disch:=omega)only[push_cast,hal,h0,h1,h4,h12,h13,g',hq,Int.natCast_zero,↓WX,simprocAttr]
  |succ u'=>
  rw[Sort.scanDown]at hq
  obtain⟨u,hu1⟩:∃u,u=u'+1:=⟨_,rfl⟩
  rw[<-hu1]at h13 hq hu
  have w0:IntKind.i64.wrap ((u:Int)-1)=(u':Int):=by rw[wrap_ok (by omega) (by omega)];omega
  by_cases g:i3<=u
  case neg=>
   rw[if_neg (by simp[g])]at hq
   simp(maxSteps:=1000000)(disch:=omega)only[push_cast,hal,h0,h1,h4,h12,h13,g,Int.ofNat_le,hq,↓WX,simprocAttr]
  have b1:u<d.size:=by omega
  have b2:lo<d.size:=by omega
  have l1:=row_at (d:=d3) (i:=u) (by omega)
  have l2:=row_at (d:=d3) (i:=lo) (by omega)
  have cc:=λst=>hC n (by omega) d3 T' hr st d3[u]! d3[lo]!
  by_cases e1:c d3[u]! d3[lo]! <0
  ·rw[if_neg (by simp[lt,e1])]at hq
   simp(maxSteps:=1000000)(disch:=omega)only[push_cast,hal,h0,h1,h4,h12,h13,g,Int.ofNat_le,hr.row,vtk,vln,b1,b2,l1,l2,↓wo_callv,cc,e1,hq,↓WX,simprocAttr]
  ·rw[if_pos (by simp[lt,g,e1])]at hq
   simp(maxSteps:=1000000)(disch:=omega)only[push_cast,hal,h0,h1,h4,h12,h13,g,Int.ofNat_le,hr.row,vtk,vln,b1,b2,l1,l2,↓wo_callv,cc,e1,w0,↓WX,simprocAttr]
   exact⟨by omega,u',rfl,by omega,hq⟩
 clear hal h0 h1 h4 h12 h13 a
 rintro a T3 ⟨rfl,hal,h0,h1,h4,h12,h13⟩
 have hj3:j3<=j:=by rw[hdj3];exact Sort.scanDown_le _ _ _ _
 have hU:=Sort.partLoop_eq (lt:=lt c) lo i j d3
 simp only[<-hdi3,<-hdj3]at hU
 by_cases g:j3<i3
 ·rw[if_pos g]at hU
  simp(maxSteps:=1000000)(disch:=omega)only[push_cast,Zx,hal,h0,h1,h12,h13,g,↓WX,simprocAttr]
  exact⟨(j3,d3),rfl,hr,hs3,by show j3<d.size;omega,by rw[hq,hU]⟩
 rw[if_neg g]at hU
 obtain⟨j4,hj4⟩:∃j4,j3=j4+1:=⟨j3-1,by omega⟩
 have w5:IntKind.i64.wrap ((j3:Int)-1)=(j4:Int):=by rw[wrap_ok (by omega) (by omega)];omega
 have b1:i3<d.size:=by omega
 have b2:j3<d.size:=by omega
 have l1:=row_at (d:=d3) (i:=i3) (by omega)
 have l2:=row_at (d:=d3) (i:=j3) (by omega)
 have l3:=row_at (d:=d3.setIfInBounds i3 d3[j3]!) (i:=j3) (by simp;omega)
 have hkl:=hr.lt
 simp(maxSteps:=1000000)(disch:=omega)only[push_cast,Zx,hal,h0,h1,h4,h12,h13,g,w5,wrap_ok,hr.row,vtk,vln,von,vsf,b1,b2,l1,l2,l3,hkl,row_set,Xf,↓WX,simprocAttr]
 exact⟨by omega,Sort.swp d3 i3 j3,i3+1,j4,by simp only[Int.natCast_add,Int.natCast_one],rfl,⟨by omega,by omega⟩,by rw[swp_size];exact hs3,hr.put,by rw[hq,hU,hj4,Nat.add_sub_cancel]⟩
end Srp
namespace Srp
variable {S0 T : List Ob} {k : Nat} {d : Array El} {cf : D} {c : El -> El -> Int}
theorem shiftDown_size {p:El->El->Bool}:∀ {j:Nat} {d:Array El},(Sort.shiftDown p j d).size=d.size
 |0,d=>rfl
 |j+1,d=>by
  rw[Sort.shiftDown]
  split
  ·rfl
  ·rw[shiftDown_size,swp_size]
theorem shiftUp_size {p:El->El->Bool} {b:Nat}:∀ {m j:Nat} {d:Array El},b-j=m->(Sort.shiftUp p b j d).size=d.size:=by
 intro m
 induction m with
 |zero=>intro j d h;rw[Sort.shiftUp,if_neg (by omega)]
 |succ m ih=>
  intro j d h
  rw[Sort.shiftUp]
  split
  ·split
   ·rfl
   ·rw[ih (by omega),swp_size]
  ·rfl
theorem scanSorted_ge {p:El->El->Bool} {d:Array El} {b:Nat}:∀ {m i:Nat},b-i=m->i<=Sort.scanSorted p d b i:=by
 intro m
 induction m with
 |zero=>intro i h;rw[Sort.scanSorted];split
        ·simp_all;omega
        ·exact Yt _
 |succ m ih=>
  intro i h
  rw[Sort.scanSorted]
  split
  ·exact Zu (Nat.le_succ i) (ih (by omega))
  ·exact Yt _
theorem scanSorted_le {p:El->El->Bool} {d:Array El} {b:Nat}:∀ {m i:Nat},b-i=m->i<=b->Sort.scanSorted p d b i<=b:=by
 intro m
 induction m with
 |zero=>intro i h hb;rw[Sort.scanSorted];split
        ·simp_all;omega
        ·exact hb
 |succ m ih=>
  intro i h hb
  rw[Sort.scanSorted]
  split
  ·exact ih (by omega) (by omega)
  ·exact hb
theorem pIns_d {n n0 lo hi:Nat} {x:Bool} (hC:CmpOk n0 S0 k cf c) (hn:n0+d.size+8<=n) (hab:lo<hi) (hb:hi<=d.size) (hz:d.size<=100000) (h:R S0 k d T):
  WO (dcall E (n+1) 163 [.os k 0 d.size x,.int .i64 lo,.int .i64 hi,cf] T) λr T'=>r=.bool (Sort.partialInsertionSort (lt c) d lo hi).2/\R S0 k (Sort.partialInsertionSort (lt c) d lo hi).1 T'/\(Sort.partialInsertionSort (lt c) d lo hi).1.size=d.size:=by
 refine wo_dcall Tryz.func163 rfl (by decide) rfl 141 rfl (λa hal ha=>?_)
 have h0:a[0]?=some (.os k 0 d.size x):=ha 0 (by simp)
 have h1:a[1]?=some (.int .i64 lo):=ha 1 (by simp)
 have h2:a[2]?=some (.int .i64 hi):=ha 2 (by simp)
 have h3:a[3]?=some (cf):=ha 3 (by simp)
 clear ha
 unfold Sort.partialInsertionSort
 simp(maxSteps:=1000000)(disch:=omega)only[push_cast,hal,h1,wrap_ok,↓WX,simprocAttr]
 refine wl_loop (λr a T'=>∃(d1:Array El) (i:Nat),a.length=141/\a[0]?=some (.os k 0 d.size x)/\a[1]?=some (.int .i64 lo)/\a[2]?=some (.int .i64 hi)/\a[3]?=some (cf)/\a[9]?=some (.int .i64 i)/\a[10]?=some (.int .i64 r)/\(lo+1<=i/\i<=hi/\r<=5)/\d1.size=d.size/\R S0 k d1 T'/\Sort.partialIns (lt c) lo hi 5 (lo+1) d=Sort.partialIns (lt c) lo hi (5-r) i d1) 5 ?_ (by omega) ?_
 ·refine⟨d,lo+1,?_⟩
  simp(maxSteps:=1000000)(disch:=omega)only[push_cast,hal,h0,h1,h2,h3,Int.natCast_add,Int.natCast_one,Int.natCast_zero,simprocAttr]
  exact⟨by omega,h⟩
 clear hal h0 h1 h2 h3 a
 clear h
 rintro r a T1 hr5 ⟨d1,i,hal,h0,h1,h2,h3,h9,h10,⟨hli,hih,-⟩,hs1,hr,hq⟩
 rcases Yf hr5 with hlt |rfl
 case inr=>
  rw[Nat.sub_self,Sort.partialIns]at hq
  have g:¬(((5:Nat):Int)<5):=by omega
  simp(maxSteps:=1000000)(disch:=omega)only[push_cast,hal,h10,Tryz.f163,↓WX,simprocAttr]
  rw[hq];exact⟨rfl,hr,hs1⟩
 have g5:((r:Int)<5):=by omega
 rw[show 5-r=(5-(r+1))+1 by omega,Sort.partialIns_succ (lt:=lt c) lo hi (5-(r+1)) i d1]at hq
 have hres:∃e,e=Sort.scanSorted (lt c) d1 hi i:=⟨_,rfl⟩
 obtain⟨e,he⟩:=hres
 have hie:i<=e:=by rw[he];exact scanSorted_ge rfl
 have heh:e<=hi:=by rw[he];exact scanSorted_le rfl hih
 simp only[<-he]at hq
 refine wc_scut (λa T'=>T'=T1/\a.length=141/\a[0]?=some (.os k 0 d.size x)/\a[1]?=some (.int .i64 lo)/\a[2]?=some (.int .i64 hi)/\a[3]?=some (cf)/\a[9]?=some (.int .i64 i)/\a[10]?=some (.int .i64 r)) ?_ ?_
 ·simp(maxSteps:=1000000)(disch:=omega)only[push_cast,hal,h0,h1,h2,h3,h9,h10,g5,↓WX,simprocAttr]
 clear hal h0 h1 h2 h3 h9 h10 a
 rintro a T' ⟨rfl,hal,h0,h1,h2,h3,h9,h10⟩
 rw[wc_seq,wc_block]
 -- the scan
 refine wc_scut (λa T2=>T2=T'/\a.length=141/\a[0]?=some (.os k 0 d.size x)/\a[1]?=some (.int .i64 lo)/\a[2]?=some (.int .i64 hi)/\a[3]?=some (cf)/\a[9]?=some (.int .i64 e)/\a[10]?=some (.int .i64 r)) ?_ ?_
 ·simp(maxSteps:=1000000)(disch:=omega)only[push_cast,↓WX]
  refine wl_loop (λs a T2=>∃u:Nat,a.length=141/\a[0]?=some (.os k 0 d.size x)/\a[1]?=some (.int .i64 lo)/\a[2]?=some (.int .i64 hi)/\a[3]?=some (cf)/\a[9]?=some (.int .i64 u)/\a[10]?=some (.int .i64 r)/\T2=T'/\u=i+s/\e=Sort.scanSorted (lt c) d1 hi u) d.size ?_ (by omega) ?_
  ·refine⟨i,?_⟩
   simp(maxSteps:=1000000)(disch:=omega)only[push_cast,hal,h0,h1,h2,h3,h9,h10]
   exact he
  clear hal h0 h1 h2 h3 h9 h10 a
  rintro s a T' hi' ⟨u,hal,h0,h1,h2,h3,h9,h10,rfl,hu,hqu⟩
  rw[Sort.scanSorted]at hqu
  by_cases g:u<hi
  case neg=>
   rw[if_neg (by simp[g])]at hqu
   simp(maxSteps:=1000000)(disch:=omega)only[push_cast,hal,h0,h1,h2,h3,h9,h10,g,hqu,↓WX,simprocAttr]
  obtain⟨u',hu'⟩:∃u',u=u'+1:=⟨u-1,by omega⟩
  have w0:IntKind.i64.wrap ((u:Int)-1)=(u':Int):=by rw[wrap_ok (by omega) (by omega)];omega
  have hu1:u-1=u':=by omega
  rw[hu1]at hqu
  have b1:u<d.size:=by omega
  have b2:u'<d.size:=by omega
  have l1:=row_at (d:=d1) (i:=u) (by omega)
  have l2:=row_at (d:=d1) (i:=u') (by omega)
  have cc:=λst=>hC n (by omega) d1 T' hr st d1[u]! d1[u']!
  by_cases e1:c d1[u]! d1[u']! <0
  ·rw[if_neg (by simp[lt,e1])]at hqu
   simp(maxSteps:=1000000)(disch:=omega)only[push_cast,hal,h0,h1,h2,h3,h9,h10,g,w0,hr.row,vtk,vln,b1,b2,l1,l2,↓wo_callv,cc,e1,hqu,↓WX,simprocAttr]
  ·rw[if_pos (by simp[lt,g,e1])]at hqu
   simp(maxSteps:=1000000)(disch:=omega)only[push_cast,hal,h0,h1,h2,h3,h9,h10,g,w0,hr.row,vtk,vln,b1,b2,l1,l2,↓wo_callv,cc,e1,wrap_ok,↓WX,simprocAttr]
   exact⟨by omega,u+1,by simp only[Int.natCast_add,Int.natCast_one],by omega,hqu⟩
 clear hal h0 h1 h2 h3 h9 h10 a
 rintro a T2 ⟨rfl,hal,h0,h1,h2,h3,h9,h10⟩
 by_cases g1:e=hi
 ·rw[if_pos g1]at hq
  have g1':((e:Int)=(hi:Int)):=by rw[g1]
  simp(maxSteps:=1000000)(disch:=omega)only[push_cast,hal,h2,h9,g1',Tryz.f163,↓WX,simprocAttr]
  rw[hq];exact⟨rfl,hr,hs1⟩
 rw[if_neg g1]at hq
 have g1':¬((e:Int)=(hi:Int)):=by omega
 obtain⟨ln,hln⟩:∃ln,ln=hi-lo:=⟨_,rfl⟩
 have w1:IntKind.i64.wrap ((hi:Int)-(lo:Int))=(ln:Int):=by rw[wrap_ok (by omega) (by omega)];omega
 by_cases g2:hi-lo<50
 ·rw[if_pos g2]at hq
  have g2':((ln:Int)<50):=by omega
  simp(maxSteps:=1000000)(disch:=omega)only[push_cast,hal,h1,h2,h9,g1',w1,g2',Tryz.f163,↓WX,simprocAttr]
  rw[hq];exact⟨rfl,hr,hs1⟩
 rw[if_neg g2]at hq
 have g2':¬((ln:Int)<50):=by omega
 obtain⟨e',hee⟩:∃e',e=e'+1:=⟨e-1,by omega⟩
 have hee':e-1=e':=by omega
 rw[hee']at hq
 have w2:IntKind.i64.wrap ((e:Int)-1)=(e':Int):=by rw[wrap_ok (by omega) (by omega)];omega
 rw[wc_asc,wc_asc]
 obtain⟨d2,hd2⟩:∃d2,d2=Sort.swp d1 e e':=⟨_,rfl⟩
 rw[<-hd2]at hq
 have hs2:d2.size=d.size:=by rw[hd2,swp_size];exact hs1
 refine wc_scut (λa T'=>a.length=141/\a[0]?=some (.os k 0 d.size x)/\a[1]?=some (.int .i64 lo)/\a[2]?=some (.int .i64 hi)/\a[3]?=some (cf)/\a[9]?=some (.int .i64 e)/\a[10]?=some (.int .i64 r)/\R S0 k d2 T') ?_ ?_
 ·have b1:e<d.size:=by omega
  have b2:e'<d.size:=by omega
  have l1:=row_at (d:=d1) (i:=e) (by omega)
  have l2:=row_at (d:=d1) (i:=e') (by omega)
  have l3:=row_at (d:=d1.setIfInBounds e d1[e']!) (i:=e') (by simp;omega)
  have hkl:=hr.lt
  simp(maxSteps:=1000000)(disch:=omega)only[push_cast,hal,h0,h1,h2,h3,h9,h10,g1',w1,g2',w2,hr.row,vtk,vln,von,vsf,b1,b2,l1,l2,l3,hkl,row_set,Xf,↓WX,simprocAttr]
  rw[hd2];exact hr.put
 clear hal h0 h1 h2 h3 h9 h10 a
 clear hr
 rintro a T1 ⟨hal,h0,h1,h2,h3,h9,h10,hr⟩
 obtain⟨d3,hd3⟩:∃d3,d3=Sort.fixDown (lt c) lo e d2:=⟨_,rfl⟩
 rw[<-hd3]at hq
 have hs3:d3.size=d.size:=by
  rw[hd3,Sort.fixDown]
  split
  ·rw[shiftDown_size];exact hs2
  ·exact hs2
 obtain⟨el,hel⟩:∃el,el=e-lo:=⟨_,rfl⟩
 have w3:IntKind.i64.wrap ((e:Int)-(lo:Int))=(el:Int):=by rw[wrap_ok (by omega) (by omega)];omega
 refine wc_scut (λa T'=>a.length=141/\a[0]?=some (.os k 0 d.size x)/\a[1]?=some (.int .i64 lo)/\a[2]?=some (.int .i64 hi)/\a[3]?=some (cf)/\a[9]?=some (.int .i64 e)/\a[10]?=some (.int .i64 r)/\R S0 k d3 T') ?_ ?_
 ·by_cases g3:el>=2
  case neg=>
   have g3':¬((2:Int)<=(el:Int)):=by omega
   rw[Sort.fixDown,if_neg (by omega)]at hd3
   simp(maxSteps:=1000000)(disch:=omega)only[push_cast,hal,h0,h1,h2,h3,h9,h10,w3,g3',↓WX,simprocAttr]
   rw[hd3];exact hr
  have g3':((2:Int)<=(el:Int)):=by omega
  rw[Sort.fixDown,if_pos (by omega),hee']at hd3
  simp(maxSteps:=1000000)(disch:=omega)only[push_cast,hal,h1,h9,w3,g3',w2,↓WX,simprocAttr]
  refine wl_loop (λs a T'=>∃(d4:Array El) (j:Nat),a.length=141/\a[0]?=some (.os k 0 d.size x)/\a[1]?=some (.int .i64 lo)/\a[2]?=some (.int .i64 hi)/\a[3]?=some (cf)/\a[9]?=some (.int .i64 e)/\a[10]?=some (.int .i64 r)/\a[11]?=some (.int .i64 j)/\j+s=e'/\d4.size=d.size/\R S0 k d4 T'/\d3=Sort.shiftDown (lt c) j d4) e' ?_ (by omega) ?_
  ·refine⟨d2,e',?_⟩
   simp(maxSteps:=1000000)(disch:=omega)only[push_cast,hal,h0,h1,h2,h3,h9,h10,simprocAttr]
   exact⟨hs2,hr,hd3⟩
  clear hal h0 h1 h2 h3 h9 h10 a
  clear hr
  rintro s a T' hs' ⟨d4,j,hal,h0,h1,h2,h3,h9,h10,h11,hj,hs4,hr,hqj⟩
  cases j with
  |zero=>
   have g:¬((1:Int)<=((0:Nat):Int)):=by omega
   rw[Sort.shiftDown]at hqj
   simp(maxSteps:=1000000)(disch:=omega)only[push_cast,hal,h0,h1,h2,h3,h9,h10,h11,Xe,↓WX,simprocAttr]
   rw[hqj];exact hr
  |succ j'=>
  rw[Sort.shiftDown]at hqj
  obtain⟨j,hj1⟩:∃j,j=j'+1:=⟨_,rfl⟩
  rw[<-hj1]at h11 hqj hj
  have g:((1:Int)<=(j:Int)):=by omega
  have w0:IntKind.i64.wrap ((j:Int)-1)=(j':Int):=by rw[wrap_ok (by omega) (by omega)];omega
  have b1:j<d.size:=by omega
  have b2:j'<d.size:=by omega
  have l1:=row_at (d:=d4) (i:=j) (by omega)
  have l2:=row_at (d:=d4) (i:=j') (by omega)
  have cc:=λst=>hC n (by omega) d4 T' hr st d4[j]! d4[j']!
  by_cases e1:c d4[j]! d4[j']! <0
  ·rw[if_neg (by simp[lt,e1])]at hqj
   have l3:=row_at (d:=d4.setIfInBounds j d4[j']!) (i:=j') (by simp;omega)
   have hkl:=hr.lt
   simp(maxSteps:=1000000)(disch:=omega)only[push_cast,hal,h0,h1,h2,h3,h9,h10,h11,g,w0,hr.row,vtk,vln,von,vsf,b1,b2,l1,l2,↓wo_callv,cc,e1,l3,hkl,row_set,Xf,↓WX,simprocAttr]
   exact⟨by omega,Sort.swp d4 j j',j',rfl,by omega,by rw[swp_size];exact hs4,hr.put,hqj⟩
  ·rw[if_pos (by simp[lt,e1])]at hqj
   simp(maxSteps:=1000000)(disch:=omega)only[push_cast,hal,h0,h1,h2,h3,h9,h10,h11,g,w0,hr.row,vtk,vln,b1,b2,l1,l2,↓wo_callv,cc,e1,↓WX,simprocAttr]
   rw[hqj];exact hr
 clear hal h0 h1 h2 h3 h9 h10 a
 clear hr
 rintro a T1 ⟨hal,h0,h1,h2,h3,h9,h10,hr⟩
 obtain⟨d5,hd5⟩:∃d5,d5=Sort.fixUp (lt c) hi e d3:=⟨_,rfl⟩
 rw[<-hd5]at hq
 have hs5:d5.size=d.size:=by
  rw[hd5,Sort.fixUp]
  split
  ·rw[shiftUp_size rfl];exact hs3
  ·exact hs3
 obtain⟨er,her⟩:∃er,er=hi-e:=⟨_,rfl⟩
 have w4:IntKind.i64.wrap ((hi:Int)-(e:Int))=(er:Int):=by rw[wrap_ok (by omega) (by omega)];omega
 refine wc_mono (Q:=λq a T'=>q=.normal/\a.length=141/\a[0]?=some (.os k 0 d.size x)/\a[1]?=some (.int .i64 lo)/\a[2]?=some (.int .i64 hi)/\a[3]?=some (cf)/\a[9]?=some (.int .i64 e)/\a[10]?=some (.int .i64 r)/\R S0 k d5 T') ?_ ?_
 case refine_2=>
  clear hal h0 h1 h2 h3 h9 h10 hr a
  rintro q a T' ⟨rfl,hal,h0,h1,h2,h3,h9,h10,hr⟩
  simp(maxSteps:=1000000)(disch:=omega)only[push_cast,hal,h0,h1,h2,h3,h9,h10,wrap_ok,Int.natCast_add,Int.natCast_one,↓WX,simprocAttr]
  exact⟨by omega,d5,e,rfl,⟨by omega,by omega,by omega⟩,hs5,hr,by first |exact hq |(rw[show 4-r=5-(r+1) by omega];exact hq)⟩
 by_cases g3:er>=2
 case neg=>
  have g3':¬((2:Int)<=(er:Int)):=by omega
  rw[Sort.fixUp,if_neg (by omega)]at hd5
  simp(maxSteps:=1000000)(disch:=omega)only[push_cast,hal,h0,h1,h2,h3,h9,h10,w4,g3',↓WX,simprocAttr]
  rw[hd5];exact hr
 have g3':((2:Int)<=(er:Int)):=by omega
 rw[Sort.fixUp,if_pos (by omega)]at hd5
 have w5:IntKind.i64.wrap ((e:Int)+1)=((e+1:Nat):Int):=by rw[wrap_ok (by omega) (by omega)];omega
 obtain⟨f,hf⟩:∃f,f=e+1:=⟨_,rfl⟩
 rw[<-hf]at w5 hd5
 simp(maxSteps:=1000000)(disch:=omega)only[push_cast,hal,h2,h9,w4,g3',w5,↓WX,simprocAttr]
 refine wl_loop (λs a T'=>∃(d4:Array El) (j:Nat),a.length=141/\a[0]?=some (.os k 0 d.size x)/\a[1]?=some (.int .i64 lo)/\a[2]?=some (.int .i64 hi)/\a[3]?=some (cf)/\a[9]?=some (.int .i64 e)/\a[10]?=some (.int .i64 r)/\a[12]?=some (.int .i64 j)/\j=f+s/\d4.size=d.size/\R S0 k d4 T'/\d5=Sort.shiftUp (lt c) hi j d4) d.size ?_ (by omega) ?_
 ·refine⟨d3,f,?_⟩
  simp(maxSteps:=1000000)(disch:=omega)only[push_cast,hal,h0,h1,h2,h3,h9,h10,simprocAttr]
  exact⟨hs3,hr,hd5⟩
 clear hal h0 h1 h2 h3 h9 h10 a
 clear hr
 rintro s a T' hs' ⟨d4,j,hal,h0,h1,h2,h3,h9,h10,h12,hj,hs4,hr,hqj⟩
 rw[Sort.shiftUp]at hqj
 by_cases g:j<hi
 case neg=>
  rw[if_neg g]at hqj
  simp(maxSteps:=1000000)(disch:=omega)only[push_cast,hal,h0,h1,h2,h3,h9,h10,h12,g,↓WX,simprocAttr]
  rw[hqj];exact hr
 rw[if_pos g]at hqj
 obtain⟨j',hj1⟩:∃j',j=j'+1:=⟨j-1,by omega⟩
 have hj2:j-1=j':=by omega
 rw[hj2]at hqj
 have w0:IntKind.i64.wrap ((j:Int)-1)=(j':Int):=by rw[wrap_ok (by omega) (by omega)];omega
 have b1:j<d.size:=by omega
 have b2:j'<d.size:=by omega
 have l1:=row_at (d:=d4) (i:=j) (by omega)
 have l2:=row_at (d:=d4) (i:=j') (by omega)
 have cc:=λst=>hC n (by omega) d4 T' hr st d4[j]! d4[j']!
 by_cases e1:c d4[j]! d4[j']! <0
 ·rw[if_neg (by simp[lt,e1])]at hqj
  have l3:=row_at (d:=d4.setIfInBounds j d4[j']!) (i:=j') (by simp;omega)
  have hkl:=hr.lt
  simp(maxSteps:=1000000)(disch:=omega)only[push_cast,hal,h0,h1,h2,h3,h9,h10,h12,g,w0,hr.row,vtk,vln,von,vsf,b1,b2,l1,l2,↓wo_callv,cc,e1,l3,hkl,row_set,Xf,wrap_ok,↓WX,simprocAttr]
  exact⟨by omega,Sort.swp d4 j j',j+1,by simp only[Int.natCast_add,Int.natCast_one],by omega,by rw[swp_size];exact hs4,hr.put,hqj⟩
 ·rw[if_pos (by simp[lt,e1])]at hqj
  simp(maxSteps:=1000000)(disch:=omega)only[push_cast,hal,h0,h1,h2,h3,h9,h10,h12,g,w0,hr.row,vtk,vln,b1,b2,l1,l2,↓wo_callv,cc,e1,↓WX,simprocAttr]
  rw[hqj];exact hr
end Srp
namespace Srp
variable {S0 T : List Ob} {k : Nat} {d : Array El} {cf : D} {c : El -> El -> Int}
def Bx (kd:IntKind) (T:List Ob) (q:Nat):Prop:=∃s:Int,T[q]?=some (.row 1 [[.int kd s]])
theorem R.setq (h:R S0 k d T) {q:Nat} {o:Ob} (hq:S0.length<=q) (hk:q≠k):R S0 k d (T.set q o) where
 row:=by rw[Yc hk];exact h.row
 old:=λj o' hj ho=>by
  have:j<S0.length:=(Ya.1 ho).1
  rw[Yc (by omega)];exact h.old j o' hj ho
 len:=by rw[Zg];exact h.len
theorem loc_own {kk i o:Nat} {l:List D}:pureL (.loc kk i o::l)=false:=by simp[pureL_cons,D.pure]
theorem order2_d {n n0 p q b:Nat} {x:Bool} (hC:CmpOk n0 S0 k cf c) (hn:n0<=n) (hp:p<d.size) (hq:q<d.size) (_hz:d.size<=100000) (h:R S0 k d T) (hb:Bx .i64 T b) (hbS:S0.length<=b) (hbk:b≠k):
  WO (dcall E (n+1) 233 [.os k 0 d.size x,.int .i64 p,.int .i64 q,.loc b 0 0,cf] T) λr T'=>∃u v:Nat,r=.tup [.int .i64 u,.int .i64 v]/\((u=p/\v=q)∨(u=q/\v=p))/\R S0 k d T'/\Bx .i64 T' b:=by
 obtain⟨s,hs⟩:=hb
 refine wo_dcall Tryz.func233 rfl (by decide) rfl 32 rfl (λa hal ha=>?_)
 have h0:a[0]?=some (.os k 0 d.size x):=ha 0 (by simp)
 have h1:a[1]?=some (.int .i64 p):=ha 1 (by simp)
 have h2:a[2]?=some (.int .i64 q):=ha 2 (by simp)
 have h3:a[3]?=some (.loc b 0 0):=ha 3 (by simp)
 have h4:a[4]?=some (cf):=ha 4 (by simp)
 clear ha
 have l1:=row_at (d:=d) (i:=p) (by omega)
 have l2:=row_at (d:=d) (i:=q) (by omega)
 have cc:=λst=>hC n (by omega) d T h st d[q]! d[p]!
 have hbl:b<T.length:=(Ya.1 hs).1
 by_cases e1:c d[q]! d[p]! <0
 ·simp(maxSteps:=1000000)(disch:=omega)only[push_cast,hal,h0,h1,h2,h3,h4,h.row,vtk,vln,hp,hq,l1,l2,↓wo_callv,cc,e1,hs,Tryz.f233,↓WX,simprocAttr]
  exact⟨q,p,rfl,.inr ⟨rfl,rfl⟩,h.setq hbS hbk,_,Yo hbl⟩
 ·simp(maxSteps:=1000000)(disch:=omega)only[push_cast,hal,h0,h1,h2,h4,h.row,vtk,vln,hp,hq,l1,l2,↓wo_callv,cc,e1,Tryz.f233,↓WX,simprocAttr]
  exact⟨p,q,rfl,.inl ⟨rfl,rfl⟩,h,s,hs⟩
theorem median_d {n n0 p q r b:Nat} {x:Bool} (hC:CmpOk n0 S0 k cf c) (hn:n0+1<=n) (hp:p<d.size) (hq:q<d.size) (hr:r<d.size) (hz:d.size<=100000) (h:R S0 k d T) (hb:Bx .i64 T b) (hbS:S0.length<=b) (hbk:b≠k):
  WO (dcall E (n+1) 206 [.os k 0 d.size x,.int .i64 p,.int .i64 q,.int .i64 r,.loc b 0 0,cf] T) λo T'=>∃u:Nat,o=.int .i64 u/\(u=p∨u=q∨u=r)/\R S0 k d T'/\Bx .i64 T' b:=by
 obtain⟨m,rfl⟩:∃m,n=m+1:=⟨n-1,by omega⟩
 obtain⟨_,T1,c1,u1,v1,rfl,k1,h1',b1⟩:=order2_d (n:=m) (x:=x) hC (by omega) hp hq hz h hb hbS hbk
 have c1:=(callD_own (f:=233) rfl pure_own).trans c1
 obtain⟨_,T2,c2,u2,v2,rfl,k2,h2',b2⟩:=order2_d (n:=m) (p:=v1) (q:=r) (x:=x) hC (by omega) (by omega) hr hz h1' b1 hbS hbk
 have c2:=(callD_own (f:=233) rfl pure_own).trans c2
 obtain⟨_,T3,c3,u3,v3,rfl,k3,h3',b3⟩:=order2_d (n:=m) (p:=u1) (q:=u2) (x:=x) hC (by omega) (by omega) (by omega) hz h2' b2 hbS hbk
 have c3:=(callD_own (f:=233) rfl pure_own).trans c3
 refine wo_dcall Tryz.func206 rfl (by decide) rfl 41 rfl (λa hal ha=>?_)
 have h0:a[0]?=some (.os k 0 d.size x):=ha 0 (by simp)
 have h1:a[1]?=some (.int .i64 p):=ha 1 (by simp)
 have h2:a[2]?=some (.int .i64 q):=ha 2 (by simp)
 have h3:a[3]?=some (.int .i64 r):=ha 3 (by simp)
 have h4:a[4]?=some (.loc b 0 0):=ha 4 (by simp)
 have h5:a[5]?=some (cf):=ha 5 (by simp)
 clear ha
 simp(maxSteps:=1000000)(disch:=omega)only[push_cast,hal,h0,h1,h2,h3,h4,h5,c1,c2,c3,Tryz.f206,↓WX,simprocAttr]
 exact⟨v3,rfl,by omega,h3',b3⟩
theorem medAdj_d {n n0 p b:Nat} {x:Bool} (hC:CmpOk n0 S0 k cf c) (hn:n0+2<=n) (hp:1<=p) (hq:p+1<d.size) (hz:d.size<=100000) (h:R S0 k d T) (hb:Bx .i64 T b) (hbS:S0.length<=b) (hbk:b≠k):
  WO (dcall E (n+1) 205 [.os k 0 d.size x,.int .i64 p,.loc b 0 0,cf] T) λo T'=>∃u:Nat,o=.int .i64 u/\p<=u+1/\u<=p+1/\R S0 k d T'/\Bx .i64 T' b:=by
 obtain⟨m,rfl⟩:∃m,n=m+1:=⟨n-1,by omega⟩
 obtain⟨p0,hp0⟩:∃p0,p0=p-1:=⟨_,rfl⟩
 obtain⟨p2,hp2⟩:∃p2,p2=p+1:=⟨_,rfl⟩
 have w1:IntKind.i64.wrap ((p:Int)-1)=(p0:Int):=by rw[wrap_ok (by omega) (by omega)];omega
 have w2:IntKind.i64.wrap ((p:Int)+1)=(p2:Int):=by rw[wrap_ok (by omega) (by omega)];omega
 obtain⟨_,T1,c1,u1,rfl,k1,h1',b1⟩:=median_d (n:=m) (p:=p0) (q:=p) (r:=p2) (x:=x) hC (by omega) (by omega) (by omega) (by omega) hz h hb hbS hbk
 have c1:=(callD_own (f:=206) rfl pure_own).trans c1
 refine wo_dcall Tryz.func205 rfl (by decide) rfl 18 rfl (λa hal ha=>?_)
 have h0:a[0]?=some (.os k 0 d.size x):=ha 0 (by simp)
 have h1:a[1]?=some (.int .i64 p):=ha 1 (by simp)
 have h2:a[2]?=some (.loc b 0 0):=ha 2 (by simp)
 have h3:a[3]?=some (cf):=ha 3 (by simp)
 clear ha
 simp(maxSteps:=1000000)(disch:=omega)only[push_cast,hal,h0,h1,h2,h3,w1,w2,c1,Tryz.f205,↓WX,simprocAttr]
 exact⟨u1,rfl,by omega,by omega,h1',b1⟩
theorem choose_d {n n0 lo hi:Nat} {x:Bool} (hC:CmpOk n0 S0 k cf c) (hn:n0+3<=n) (hab:lo+12<hi) (hb:hi<=d.size) (hz:d.size<=100000) (h:R S0 k d T):
  WO (dcall E (n+1) 161 [.os k 0 d.size x,.int .i64 lo,.int .i64 hi,cf] T) λo T'=>∃(u:Nat) (e:Int),o=.tup [.int .i64 u,.int .i64 e]/\lo<=u/\u<hi/\R S0 k d T':=by
 obtain⟨m,rfl⟩:∃m,n=m+1:=⟨n-1,by omega⟩
 obtain⟨ln,hln⟩:∃ln,ln=hi-lo:=⟨_,rfl⟩
 obtain⟨qu,hqu⟩:∃qu,qu=ln / 4:=⟨_,rfl⟩
 have w1:IntKind.i64.wrap ((hi:Int)-(lo:Int))=(ln:Int):=by rw[wrap_ok (by omega) (by omega)];omega
 have w2:IntKind.i64.wrap ((ln:Int).tdiv 4)=(qu:Int):=by
  rw[show (4:Int)=((4:Nat):Int) from rfl,<-Int.ofNat_tdiv,wrap_ok (by omega) (by omega),hqu]
 obtain⟨i,hi'⟩:∃i,i=lo+qu*1:=⟨_,rfl⟩
 obtain⟨j,hj'⟩:∃i,i=lo+qu*2:=⟨_,rfl⟩
 obtain⟨l,hl'⟩:∃i,i=lo+qu*3:=⟨_,rfl⟩
 have w3:IntKind.i64.wrap ((lo:Int)+IntKind.i64.wrap ((qu:Int)*1))=(i:Int):=by rw[wrap_ok (x:=(qu:Int)*1) (by omega) (by omega),wrap_ok (by omega) (by omega)];omega
 have w4:IntKind.i64.wrap ((lo:Int)+IntKind.i64.wrap ((qu:Int)*2))=(j:Int):=by rw[wrap_ok (x:=(qu:Int)*2) (by omega) (by omega),wrap_ok (by omega) (by omega)];omega
 have w5:IntKind.i64.wrap ((lo:Int)+IntKind.i64.wrap ((qu:Int)*3))=(l:Int):=by rw[wrap_ok (x:=(qu:Int)*3) (by omega) (by omega),wrap_ok (by omega) (by omega)];omega
 have g8:(8:Int)<=(ln:Int):=by omega
 have hpush:=h.push (.row 1 [[.int .i64 0]])
 have hkl:=h.lt
 have hbx:Bx .i64 (T++[.row 1 [[.int .i64 0]]]) T.length:=⟨0,get_end⟩
 have hSl:=h.len
 have hTk:T.length≠k:=by omega
 refine wo_dcall Tryz.func161 rfl (by decide) rfl 63 rfl (λa hal ha=>?_)
 have h0:a[0]?=some (.os k 0 d.size x):=ha 0 (by simp)
 have h1:a[1]?=some (.int .i64 lo):=ha 1 (by simp)
 have h2:a[2]?=some (.int .i64 hi):=ha 2 (by simp)
 have h3:a[3]?=some (cf):=ha 3 (by simp)
 clear ha
 generalize hTq:T.length=tq at*
 have fin:∀(u:Nat) (T':List Ob),lo<=u->u<hi->R S0 k d T'->Bx .i64 T' tq->∀a:List D,a.length=63/\a[11]?=some (.loc tq 0 0)/\a[13]?=some (.int .i64 u)->True:=λ_ _ _ _ _ _ _ _=>trivial
 clear fin
 by_cases g50:50<=ln
 ·have g50':(50:Int)<=(ln:Int):=by omega
  obtain⟨_,T1,c1,u1,rfl,k1,k1',r1,b1⟩:=medAdj_d (n:=m) (p:=i) (x:=x) hC (by omega) (by omega) (by omega) hz hpush hbx (by omega) hTk
  have c1:=(callD_own (f:=205) rfl pure_own).trans c1
  obtain⟨_,T2,c2,u2,rfl,k2,k2',r2,b2⟩:=medAdj_d (n:=m) (p:=j) (x:=x) hC (by omega) (by omega) (by omega) hz r1 b1 (by omega) hTk
  have c2:=(callD_own (f:=205) rfl pure_own).trans c2
  obtain⟨_,T3,c3,u3,rfl,k3,k3',r3,b3⟩:=medAdj_d (n:=m) (p:=l) (x:=x) hC (by omega) (by omega) (by omega) hz r2 b2 (by omega) hTk
  have c3:=(callD_own (f:=205) rfl pure_own).trans c3
  obtain⟨_,T4,c4,u4,rfl,k4,r4,s,b4⟩:=median_d (n:=m) (p:=u1) (q:=u2) (r:=u3) (x:=x) hC (by omega) (by omega) (by omega) (by omega) hz r3 b3 (by omega) hTk
  have c4:=(callD_own (f:=206) rfl pure_own).trans c4
  by_cases g1:s=0
  ·subst g1
   simp(maxSteps:=1000000)(disch:=omega)only[push_cast,hal,h0,h1,h2,h3,hTq,w1,w2,w3,w4,w5,g8,g50',c1,c2,c3,c4,b4,Tryz.f161,↓WX,simprocAttr]
   exact⟨u4,_,rfl,by omega,by omega,r4⟩
  by_cases g2:s=12
  ·subst g2
   simp(maxSteps:=1000000)(disch:=omega)only[push_cast,hal,h0,h1,h2,h3,hTq,w1,w2,w3,w4,w5,g8,g50',c1,c2,c3,c4,b4,Tryz.f161,↓WX,simprocAttr]
   exact⟨u4,_,rfl,by omega,by omega,r4⟩
  ·simp(maxSteps:=1000000)(disch:=omega)only[push_cast,hal,h0,h1,h2,h3,hTq,w1,w2,w3,w4,w5,g8,g50',c1,c2,c3,c4,b4,g1,g2,Tryz.f161,↓WX,simprocAttr]
   exact⟨u4,_,rfl,by omega,by omega,r4⟩
 ·have g50':¬(50:Int)<=(ln:Int):=by omega
  obtain⟨_,T4,c4,u4,rfl,k4,r4,s,b4⟩:=median_d (n:=m) (p:=i) (q:=j) (r:=l) (x:=x) hC (by omega) (by omega) (by omega) (by omega) hz hpush hbx (by omega) hTk
  have c4:=(callD_own (f:=206) rfl pure_own).trans c4
  by_cases g1:s=0
  ·subst g1
   simp(maxSteps:=1000000)(disch:=omega)only[push_cast,hal,h0,h1,h2,h3,hTq,w1,w2,w3,w4,w5,g8,g50',c4,b4,Tryz.f161,↓WX,simprocAttr]
   exact⟨u4,_,rfl,by omega,by omega,r4⟩
  by_cases g2:s=12
  ·subst g2
   simp(maxSteps:=1000000)(disch:=omega)only[push_cast,hal,h0,h1,h2,h3,hTq,w1,w2,w3,w4,w5,g8,g50',c4,b4,Tryz.f161,↓WX,simprocAttr]
   exact⟨u4,_,rfl,by omega,by omega,r4⟩
  ·simp(maxSteps:=1000000)(disch:=omega)only[push_cast,hal,h0,h1,h2,h3,hTq,w1,w2,w3,w4,w5,g8,g50',c4,b4,g1,g2,Tryz.f161,↓WX,simprocAttr]
   exact⟨u4,_,rfl,by omega,by omega,r4⟩
end Srp
namespace Srp
noncomputable def npB (l:Nat):Bool:=
 match dcall E 40 203 [.int .i64 l] [] with
 |some (.int .u64 m,_)=>decide (l=0) || (decide ((l:Int)<m) && decide (m<=2*l))
 |_=>false
noncomputable def blB (l:Nat):Bool:=
 match dcall E 40 116 [.int .u64 l] [] with
 |some (.int .i64 _,_)=>true
 |_=>false
theorem np_0:(List.range 50).all (λi=>npB (0+i) && blB (0+i))=true:=by kernel_rfl
theorem np_1:(List.range 50).all (λi=>npB (50+i) && blB (50+i))=true:=by kernel_rfl
theorem np_2:(List.range 50).all (λi=>npB (100+i) && blB (100+i))=true:=by kernel_rfl
theorem np_3:(List.range 50).all (λi=>npB (150+i) && blB (150+i))=true:=by kernel_rfl
theorem np_4:(List.range 50).all (λi=>npB (200+i) && blB (200+i))=true:=by kernel_rfl
theorem np_5:(List.range 50).all (λi=>npB (250+i) && blB (250+i))=true:=by kernel_rfl
theorem np_6:(List.range 50).all (λi=>npB (300+i) && blB (300+i))=true:=by kernel_rfl
theorem np_7:(List.range 50).all (λi=>npB (350+i) && blB (350+i))=true:=by kernel_rfl
theorem np_8:(List.range 50).all (λi=>npB (400+i) && blB (400+i))=true:=by kernel_rfl
theorem np_9:(List.range 50).all (λi=>npB (450+i) && blB (450+i))=true:=by kernel_rfl
theorem np_10:(List.range 50).all (λi=>npB (500+i) && blB (500+i))=true:=by kernel_rfl
theorem np_11:(List.range 50).all (λi=>npB (550+i) && blB (550+i))=true:=by kernel_rfl
theorem np_12:(List.range 50).all (λi=>npB (600+i) && blB (600+i))=true:=by kernel_rfl
theorem np_13:(List.range 50).all (λi=>npB (650+i) && blB (650+i))=true:=by kernel_rfl
theorem np_14:(List.range 50).all (λi=>npB (700+i) && blB (700+i))=true:=by kernel_rfl
theorem np_15:(List.range 50).all (λi=>npB (750+i) && blB (750+i))=true:=by kernel_rfl
theorem np_16:(List.range 50).all (λi=>npB (800+i) && blB (800+i))=true:=by kernel_rfl
theorem np_17:(List.range 50).all (λi=>npB (850+i) && blB (850+i))=true:=by kernel_rfl
theorem np_18:(List.range 50).all (λi=>npB (900+i) && blB (900+i))=true:=by kernel_rfl
theorem np_19:(List.range 50).all (λi=>npB (950+i) && blB (950+i))=true:=by kernel_rfl
theorem np_20:(List.range 50).all (λi=>npB (1000+i) && blB (1000+i))=true:=by kernel_rfl
theorem np_21:(List.range 50).all (λi=>npB (1050+i) && blB (1050+i))=true:=by kernel_rfl
theorem np_at {l:Nat} (h:l<1100):npB l=true/\blB l=true:=by
 have key:∀a,a<=l->l<a+50->(List.range 50).all (λi=>npB (a+i) && blB (a+i))=true->npB l=true/\blB l=true:=λa h1 h2 ha=>by
  have:=List.all_eq_true.1 ha (l-a) (List.mem_range.2 (by omega))
  rw[show a+(l-a)=l by omega,Ye]at this
  exact this
 refine if h0:l<50 then key 0 (by omega) (by omega) np_0 else
  if h1:l<100 then key 50 (by omega) (by omega) np_1 else
  if h2:l<150 then key 100 (by omega) (by omega) np_2 else
  if h3:l<200 then key 150 (by omega) (by omega) np_3 else
  if h4:l<250 then key 200 (by omega) (by omega) np_4 else
  if h5:l<300 then key 250 (by omega) (by omega) np_5 else
  if h6:l<350 then key 300 (by omega) (by omega) np_6 else
  if h7:l<400 then key 350 (by omega) (by omega) np_7 else
  if h8:l<450 then key 400 (by omega) (by omega) np_8 else
  if h9:l<500 then key 450 (by omega) (by omega) np_9 else
  if h10:l<550 then key 500 (by omega) (by omega) np_10 else
  if h11:l<600 then key 550 (by omega) (by omega) np_11 else
  if h12:l<650 then key 600 (by omega) (by omega) np_12 else
  if h13:l<700 then key 650 (by omega) (by omega) np_13 else
  if h14:l<750 then key 700 (by omega) (by omega) np_14 else
  if h15:l<800 then key 750 (by omega) (by omega) np_15 else
  if h16:l<850 then key 800 (by omega) (by omega) np_16 else
  if h17:l<900 then key 850 (by omega) (by omega) np_17 else
  if h18:l<950 then key 900 (by omega) (by omega) np_18 else
  if h19:l<1000 then key 950 (by omega) (by omega) np_19 else
  if h20:l<1050 then key 1000 (by omega) (by omega) np_20 else
  if h21:l<1100 then key 1050 (by omega) (by omega) np_21 else
  absurd h (by omega)
theorem np_c {n l:Nat} (hn:40<=n) (hl:0<l) (hl':l<1100):∃m:Nat,l<m/\m<=2*l/\∀st S,callD E (dcall E n) st S 203 [.int .i64 l]=some (.int .u64 m,S):=by
 have h:=(np_at hl').1
 unfold npB at h
 split at h
 ·rename_i m T he
  have hm:((l:Int)<m)/\m<=2*l:=by
   simp only[Bool.or_eq_true,Ye,Yy]at h
   omega
  obtain⟨q,hq⟩:∃q:Nat,m=q:=⟨m.toNat,by omega⟩
  subst hq
  exact⟨q,by omega,by omega,λst S=>callD_up hn (callD_pure rfl rfl he rfl)⟩
 ·cases h
theorem bl_c {n l:Nat} (hn:40<=n) (hl':l<1100):∃m:Int,∀st S,callD E (dcall E n) st S 116 [.int .u64 l]=some (.int .i64 m,S):=by
 have h:=(np_at hl').2
 unfold blB at h
 split at h
 ·rename_i m T he
  exact⟨m,λst S=>callD_up hn (callD_pure rfl rfl he rfl)⟩
 ·cases h
theorem shl13 (v:Int):dShift .shl .u64 v 13=some (.int .u64 (IntKind.u64.wrap (v*2 ^ 13))):=rfl
theorem shr7 (v:Int):dShift .shr .u64 v 7=some (.int .u64 (v.fdiv (2 ^ 7))):=rfl
theorem shl17 (v:Int):dShift .shl .u64 v 17=some (.int .u64 (IntKind.u64.wrap (v*2 ^ 17))):=rfl
theorem and_mask (v:Int) {m:Nat} (h1:1<=m) (h2:m<=4000):∃o:Nat,o<m/\IntKind.i64.wrap (IntKind.u64.wrap ((BitVec.ofInt IntKind.u64.bits v &&& BitVec.ofInt IntKind.u64.bits ((m:Int)-1)).toNat:Int))=(o:Int):=by
 refine⟨(BitVec.ofInt IntKind.u64.bits v &&& BitVec.ofInt IntKind.u64.bits ((m:Int)-1)).toNat,?_⟩
 have hle:(BitVec.ofInt IntKind.u64.bits v &&& BitVec.ofInt IntKind.u64.bits ((m:Int)-1)).toNat<=m-1:=by
  rw[BitVec.toNat_and]
  refine Zu Nat.and_le_right ?_
  rw[BitVec.toNat_ofInt]
  have:((m:Int)-1) % ((2 ^ IntKind.u64.bits:Nat):Int)=(m:Int)-1:=Int.emod_eq_of_lt (by omega) (by
   have:((2 ^ IntKind.u64.bits:Nat):Int)=18446744073709551616:=by decide
   omega)
  rw[this];omega
 generalize (BitVec.ofInt IntKind.u64.bits v &&& BitVec.ofInt IntKind.u64.bits ((m:Int)-1)).toNat=o at*
 refine⟨by omega,?_⟩
 have:IntKind.u64.wrap (o:Int)=(o:Int):=by
  show ((o:Int)) % 18446744073709551616=o
  omega
 rw[this,wrap_ok (by omega) (by omega)]
theorem next_d {n q:Nat} {T:List Ob} (hb:Bx .u64 T q):WO (dcall E (n+1) 204 [.loc q 0 0] T) λr T'=>∃v:Int,r=.int .u64 v/\T'=T.set q (.row 1 [[.int .u64 v]]):=by
 obtain⟨s,hs⟩:=hb
 have hbl:q<T.length:=(Ya.1 hs).1
 refine wo_dcall Tryz.func204 rfl (by decide) rfl 33 rfl (λa hal ha=>?_)
 have h0:a[0]?=some (.loc q 0 0):=ha 0 (by simp)
 clear ha
 simp(maxSteps:=1000000)(disch:=omega)only[push_cast,hal,h0,hs,hbl,shl13,shr7,shl17,Xf,Tryz.f204,↓WX,simprocAttr]
 exact⟨_,rfl,rfl⟩
end Srp
namespace Srp
variable {S0 T : List Ob} {k : Nat} {d : Array El} {cf : D} {c : El -> El -> Int}
theorem brk_d {n lo hi:Nat} {x:Bool} (hn:50<=n) (hab:lo+12<hi) (hb:hi<=d.size) (hz:d.size<1100) (h:R S0 k d T):
  WO (dcall E (n+1) 160 [.os k 0 d.size x,.int .i64 lo,.int .i64 hi,cf] T) λ_ T'=>∃d':Array El,R S0 k d' T'/\Sort.PermIn lo hi d d':=by
 obtain⟨ln,hln⟩:∃ln,ln=hi-lo:=⟨_,rfl⟩
 have w1:IntKind.i64.wrap ((hi:Int)-(lo:Int))=(ln:Int):=by rw[wrap_ok (by omega) (by omega)];omega
 have g8:(8:Int)<=(ln:Int):=by omega
 obtain⟨m,hm1,hm2,np⟩:=np_c (n:=n) (l:=ln) (by omega) (by omega) (by omega)
 obtain⟨qu,hqu⟩:∃qu,qu=ln / 4:=⟨_,rfl⟩
 have w2:IntKind.i64.wrap ((ln:Int).tdiv 4)=(qu:Int):=by
  rw[show (4:Int)=((4:Nat):Int) from rfl,<-Int.ofNat_tdiv,wrap_ok (by omega) (by omega),hqu]
 obtain⟨mi,hmi⟩:∃mi,mi=lo+qu*2:=⟨_,rfl⟩
 have w3:IntKind.i64.wrap ((lo:Int)+IntKind.i64.wrap ((qu:Int)*2))=(mi:Int):=by rw[wrap_ok (x:=(qu:Int)*2) (by omega) (by omega),wrap_ok (by omega) (by omega)];omega
 obtain⟨m0,hm0⟩:∃m0,m0=mi-1:=⟨_,rfl⟩
 obtain⟨mm,hmm⟩:∃mm,mm=mi+1:=⟨_,rfl⟩
 have w4:IntKind.i64.wrap ((mi:Int)-1)=(m0:Int):=by rw[wrap_ok (by omega) (by omega)];omega
 have w5:IntKind.i64.wrap ((mi:Int)+1)=(mm:Int):=by rw[wrap_ok (by omega) (by omega)];omega
 refine wo_dcall Tryz.func160 rfl (by decide) rfl 67 rfl (λa hal ha=>?_)
 have h0:a[0]?=some (.os k 0 d.size x):=ha 0 (by simp)
 have h1:a[1]?=some (.int .i64 lo):=ha 1 (by simp)
 have h2:a[2]?=some (.int .i64 hi):=ha 2 (by simp)
 have h3:a[3]?=some (cf):=ha 3 (by simp)
 clear ha
 have hpush:=h.push (.row 1 [[.int .u64 (IntKind.u64.wrap ln)]])
 have hkl:=h.lt
 have hbx:Bx .u64 (T++[.row 1 [[.int .u64 (IntKind.u64.wrap ln)]]]) T.length:=⟨_,get_end⟩
 have hSl:=h.len
 have hTk:T.length≠k:=by omega
 simp(maxSteps:=1000000)(disch:=omega)only[push_cast,hal,h1,h2,w1,w2,w3,w4,g8,set_end,get_end,np,↓WX,simprocAttr]
 generalize T.length=tq at*
 refine wl_loop (λr a T'=>∃(d1:Array El) (i:Nat),a.length=67/\a[0]?=some (.os k 0 d.size x)/\a[1]?=some (.int .i64 lo)/\a[8]?=some (.int .i64 ln)/\a[9]?=some (.loc tq 0 0)/\a[10]?=some (.int .u64 m)/\a[11]?=some (.int .i64 i)/\i=m0+r/\R S0 k d1 T'/\Bx .u64 T' tq/\Sort.PermIn lo hi d d1) 3 ?_ (by omega) ?_
 ·refine⟨d,m0,?_⟩
  simp(maxSteps:=1000000)(disch:=omega)only[push_cast,hal,h0,h1,simprocAttr]
  exact⟨hpush,hbx,Sort.permIn_refl _ _ _⟩
 clear hal h0 h1 h2 h3 a
 rintro r a T' hr3 ⟨d1,i,hal,h0,h1,h8,h9,h10,h11,hi',hr,hbx,hp⟩
 have hs1:d1.size=d.size:=hp.1
 by_cases g:i<=mm
 case neg=>
  simp(maxSteps:=1000000)(disch:=omega)only[push_cast,hal,h1,h8,h11,w2,w3,w5,g,Int.ofNat_le,Tryz.f160,↓WX,simprocAttr]
  exact⟨d1,hr,hp⟩
 obtain⟨_,T1,c1,v,rfl,rfl⟩:=next_d (n:=n-1) hbx
 rw[show n-1+1=n by omega]at c1
 have c1:=(callD_own (f:=204) rfl loc_own).trans c1
 obtain⟨o,ho,wo⟩:=and_mask v (m:=m) (by omega) (by omega)
 have w6:IntKind.u64.wrap ((m:Int)-1)=(m:Int)-1:=by
  show ((m:Int)-1) % 18446744073709551616=(m:Int)-1
  omega
 have hr:=hr.setq (q:=tq) (o:=.row 1 [[.int .u64 v]]) (by omega) hTk
 have hbq:tq<T'.length:=by obtain⟨s,hs⟩:=hbx;exact (Ya.1 hs).1
 have hbx:Bx .u64 (T'.set tq (.row 1 [[.int .u64 v]])) tq:=⟨v,Yo hbq⟩
 generalize T'.set tq (.row 1 [[.int .u64 v]])=T1 at*
 -- where the other one lies
 have key:∃p,p<ln/\(p=if ln<=o then o-ln else o):=⟨_,by split <;> omega,rfl⟩
 obtain⟨p,hpl,hpe⟩:=key
 obtain⟨q,hq⟩:∃q,q=lo+p:=⟨_,rfl⟩
 have w7:IntKind.i64.wrap ((lo:Int)+(p:Int))=(q:Int):=by rw[wrap_ok (by omega) (by omega)];omega
 have w9:IntKind.i64.wrap ((i:Int)+1)=(i:Int)+1:=wrap_ok (by omega) (by omega)
 have b1:i<d.size:=by omega
 have b2:q<d.size:=by omega
 have l1:=row_at (d:=d1) (i:=i) (by omega)
 have l2:=row_at (d:=d1) (i:=q) (by omega)
 have l3:=row_at (d:=d1.setIfInBounds i d1[q]!) (i:=q) (by simp;omega)
 have hkl:=hr.lt
 have hkq:(k=tq)=False:=eq_false (Ne.symm hTk)
 have hp':Sort.PermIn lo hi d (Sort.swp d1 i q):=Sort.permIn_trans _ _ _ _ _ hp (Sort.swp_permIn d1 lo hi i q (by omega) (by omega) (by omega) (by omega) (by omega))
 have hb':∀es,Bx .u64 (T1.set k (.row 4 es)) tq:=λes=>by
  obtain⟨s,hs⟩:=hbx
  exact⟨s,by rw[Yc (Ne.symm hTk)];exact hs⟩
 by_cases g2:ln<=o
 ·rw[if_pos g2]at hpe
  have w8:IntKind.i64.wrap ((o:Int)-(ln:Int))=(p:Int):=by rw[wrap_ok (by omega) (by omega)];omega
  simp(maxSteps:=1000000)(disch:=omega)only[push_cast,hal,h0,h1,h8,h9,h10,h11,w2,w3,w5,g,Int.ofNat_le,Xe,c1,w6,wo,g2,w7,w8,hr.row,vtk,vln,von,vsf,b1,b2,l1,l2,l3,hkl,row_set,Xf,w9,↓WX,simprocAttr]
  exact⟨by omega,Sort.swp d1 i q,i+1,by simp only[Int.natCast_add,Int.natCast_one],by omega,hr.put,hb' _,hp'⟩
 ·rw[if_neg g2]at hpe
  subst hpe
  simp(maxSteps:=1000000)(disch:=omega)only[push_cast,hal,h0,h1,h8,h9,h10,h11,w2,w3,w5,g,Int.ofNat_le,Xe,c1,w6,wo,g2,w7,hr.row,vtk,vln,von,vsf,b1,b2,l1,l2,l3,hkl,row_set,Xf,w9,↓WX,simprocAttr]
  exact⟨by omega,Sort.swp d1 i q,i+1,by simp only[Int.natCast_add,Int.natCast_one],by omega,hr.put,hb' _,hp'⟩
theorem pdq_d {n0 N:Nat} {x:Bool} (hC:CmpOk n0 S0 k cf c) (hO:Sort.SWO (lt c)) (hz:N<1100):
  ∀(m:Nat) {n lo hi:Nat} {lim:Int} {d:Array El} {T:List Ob},hi-lo<=m->n0+N+m+60<=n->d.size=N->lo<=hi->hi<=N->R S0 k d T->Sort.Below (lt c) lo hi d->
  WO (dcall E (n+1) 115 [.os k 0 N x,.int .i64 lo,.int .i64 hi,.int .i64 lim,cf] T) λ_ T'=>∃d':Array El,R S0 k d' T'/\Sort.PermIn lo hi d d'/\Sort.SortedIn (lt c) lo hi d':=by
 intro m
 induction m with
 |zero=>
  intro n lo hi lim d T hm hn hdN hlh hhN hr hB
  obtain⟨n',rfl⟩:∃n',n=n'+1:=⟨n-1,by omega⟩
  obtain⟨_,T1,c1,r1⟩:=ins_d (n:=n') (lo:=lo) (hi:=hi) (x:=x) hC (by omega) hlh (by omega) (by omega) hr
  rw[hdN]at c1
  have c1:=(callD_own (f:=158) rfl pure_own).trans c1
  have w1:IntKind.i64.wrap ((hi:Int)-(lo:Int))=0:=by rw[wrap_ok (by omega) (by omega)];omega
  refine wo_dcall Tryz.func115 rfl (by decide) rfl 148 rfl (λa hal ha=>?_)
  have h0:a[0]?=some (.os k 0 N x):=ha 0 (by simp)
  have h1:a[1]?=some (.int .i64 lo):=ha 1 (by simp)
  have h2:a[2]?=some (.int .i64 hi):=ha 2 (by simp)
  have h3:a[3]?=some (.int .i64 lim):=ha 3 (by simp)
  have h4:a[4]?=some (cf):=ha 4 (by simp)
  clear ha
  simp(maxSteps:=1000000)(disch:=omega)only[push_cast,↓WX,simprocAttr]
  refine wl_loop (λr a T'=>r=0/\T'=T/\a.length=148/\a[0]?=some (.os k 0 N x)/\a[1]?=some (.int .i64 lo)/\a[2]?=some (.int .i64 hi)/\a[3]?=some (.int .i64 lim)/\a[4]?=some (cf)/\a[10]?=some (.bool true)/\a[11]?=some (.bool true)) 0 ?_ (by omega) ?_
  ·simp(maxSteps:=1000000)(disch:=omega)only[push_cast,hal,h0,h1,h2,h3,h4,simprocAttr]
  clear hal h0 h1 h2 h3 h4 a
  rintro r a T' _ ⟨rfl,rfl,hal,h0,h1,h2,h3,h4,h10,h11⟩
  simp(maxSteps:=1000000)(disch:=omega)only[push_cast,hal,h0,h1,h2,h4,w1,c1,Tryz.f115,↓WX,simprocAttr]
  obtain⟨p1,p2⟩:=Sort.insertionSort_holds (lt:=lt c) hO d lo hi hlh (by omega)
  exact⟨_,r1,p1,p2⟩
 |succ m ih=>
  intro n lo hi lim d T hm hn hdN hlh hhN hr hB
  obtain⟨n',rfl⟩:∃n',n=n'+1:=⟨n-1,by omega⟩
  refine wo_dcall Tryz.func115 rfl (by decide) rfl 148 rfl (λa hal ha=>?_)
  have h0:a[0]?=some (.os k 0 N x):=ha 0 (by simp)
  have h1:a[1]?=some (.int .i64 lo):=ha 1 (by simp)
  have h2:a[2]?=some (.int .i64 hi):=ha 2 (by simp)
  have h3:a[3]?=some (.int .i64 lim):=ha 3 (by simp)
  have h4:a[4]?=some (cf):=ha 4 (by simp)
  clear ha
  simp(maxSteps:=1000000)(disch:=omega)only[push_cast,↓WX,simprocAttr]
  refine wl_loop (λr a T'=>∃(d1:Array El) (p q:Nat) (l:Int) (wb wp:Bool),a.length=148/\a[0]?=some (.os k 0 N x)/\a[1]?=some (.int .i64 p)/\a[2]?=some (.int .i64 q)/\a[3]?=some (.int .i64 l)/\a[4]?=some (cf)/\a[10]?=some (.bool wb)/\a[11]?=some (.bool wp)/\(lo<=p/\p<=q/\q<=hi/\(q-p)+r<=hi-lo)/\d1.size=N/\R S0 k d1 T'/\Sort.Below (lt c) p q d1/\(∀d2,Sort.PermIn p q d1 d2->Sort.SortedIn (lt c) p q d2->Sort.PermIn lo hi d d2/\Sort.SortedIn (lt c) lo hi d2)) (hi-lo) ?_ (by omega) ?_
  ·refine⟨d,lo,hi,lim,true,true,?_⟩
   simp(maxSteps:=1000000)(disch:=omega)only[push_cast,hal,h0,h1,h2,h3,h4,simprocAttr]
   exact⟨by omega,hdN,hr,hB,λd2 h1 h2=>⟨h1,h2⟩⟩
  clear hal h0 h1 h2 h3 h4 a
  clear hr hB
  rintro r a T' hrN ⟨d1,p,q,l,wb,wp,hal,h0,h1,h2,h3,h4,h10,h11,⟨hlp,hpq,hqh,hrr⟩,hs1,hr,hB,hF⟩
  obtain⟨ln,hln⟩:∃ln,ln=q-p:=⟨_,rfl⟩
  have w1:IntKind.i64.wrap ((q:Int)-(p:Int))=(ln:Int):=by rw[wrap_ok (by omega) (by omega)];omega
  rw[wc_block]
  by_cases g12:ln<=12
  ·obtain⟨_,T1,c1,r1⟩:=ins_d (n:=n') (lo:=p) (hi:=q) (x:=x) hC (by omega) hpq (by omega) (by omega) hr
   rw[hs1]at c1
   have c1:=(callD_own (f:=158) rfl pure_own).trans c1
   have g:(ln:Int)<=12:=by omega
   simp(maxSteps:=1000000)(disch:=omega)only[push_cast,hal,h0,h1,h2,h4,w1,g,c1,Tryz.f115,↓WX,simprocAttr]
   obtain⟨p1,p2⟩:=Sort.insertionSort_holds (lt:=lt c) hO d1 p q hpq (by omega)
   exact⟨_,r1,hF _ p1 p2⟩
  have g:¬(ln:Int)<=12:=by omega
  by_cases gl:l=0
  ·obtain⟨_,T1,c1,r1⟩:=heap_d (n:=n') (lo:=p) (hi:=q) (x:=x) hC (by omega) (by omega) (by omega) (by omega) hr
   rw[hs1]at c1
   have c1:=(callD_own (f:=159) rfl pure_own).trans c1
   simp(maxSteps:=1000000)(disch:=omega)only[push_cast,hal,h0,h1,h2,h3,h4,w1,g,gl,c1,Tryz.f115,↓WX,simprocAttr]
   obtain⟨p1,p2⟩:=Sort.heapSort_holds (lt:=lt c) hO d1 p q hpq (by omega)
   exact⟨_,r1,hF _ p1 p2⟩
  rw[wc_asc,wc_asc]
  refine wc_scut (λa T2=>T2=T'/\a.length=148/\a[0]?=some (.os k 0 N x)/\a[1]?=some (.int .i64 p)/\a[2]?=some (.int .i64 q)/\a[3]?=some (.int .i64 l)/\a[4]?=some (cf)/\a[10]?=some (.bool wb)/\a[11]?=some (.bool wp)/\a[12]?=some (.int .i64 ln)) ?_ ?_
  ·simp(maxSteps:=1000000)(disch:=omega)only[push_cast,hal,h0,h1,h2,h3,h4,h10,h11,w1,g,gl,↓WX,simprocAttr]
  clear hal h0 h1 h2 h3 h4 h10 h11 a
  rintro a T2 ⟨rfl,hal,h0,h1,h2,h3,h4,h10,h11,h12⟩
  -- patterns are broken
  refine wc_scut (λa T'=>∃(d2:Array El) (l:Int),a.length=148/\a[0]?=some (.os k 0 N x)/\a[1]?=some (.int .i64 p)/\a[2]?=some (.int .i64 q)/\a[3]?=some (.int .i64 l)/\a[4]?=some (cf)/\a[10]?=some (.bool wb)/\a[11]?=some (.bool wp)/\a[12]?=some (.int .i64 ln)/\R S0 k d2 T'/\Sort.PermIn p q d1 d2) ?_ ?_
  ·cases wb with
   |true=>
    simp(maxSteps:=1000000)(disch:=omega)only[push_cast,hal,h0,h1,h2,h3,h4,h10,h11,h12,↓WX,simprocAttr]
    exact⟨d1,l,rfl,hr,Sort.permIn_refl _ _ _⟩
   |false=>
    obtain⟨_,T1,c1,d2,r2,p2⟩:=brk_d (cf:=cf) (n:=n') (lo:=p) (hi:=q) (x:=x) (by omega) (by omega) (by omega) (by omega) hr
    rw[hs1]at c1
    have c1:=(callD_own (f:=160) rfl pure_own).trans c1
    simp(maxSteps:=1000000)(disch:=omega)only[push_cast,hal,h0,h1,h2,h3,h4,h10,h11,h12,c1,↓WX,simprocAttr]
    exact⟨d2,_,rfl,r2,p2⟩
  clear hal h0 h1 h2 h3 h4 h10 h11 h12 a
  clear hr gl
  rintro a T2 ⟨d2,l2,hal,h0,h1,h2,h3,h4,h10,h11,h12,hr,hP2⟩
  have hs2:d2.size=N:=by rw[hP2.1];exact hs1
  -- the pivot
  obtain⟨_,T3,c1,pv,e,rfl,hpv1,hpv2,r3⟩:=choose_d (n:=n') (lo:=p) (hi:=q) (x:=x) hC (by omega) (by omega) (by omega) (by omega) hr
  rw[hs2]at c1
  have c1:=(callD_own (f:=161) rfl pure_own).trans c1
  refine wc_scut (λa T'=>T'=T3/\a.length=148/\a[0]?=some (.os k 0 N x)/\a[1]?=some (.int .i64 p)/\a[2]?=some (.int .i64 q)/\a[3]?=some (.int .i64 l2)/\a[4]?=some (cf)/\a[10]?=some (.bool wb)/\a[11]?=some (.bool wp)/\a[12]?=some (.int .i64 ln)/\a[13]?=some (.int .i64 pv)/\a[14]?=some (.int .i64 e)) ?_ ?_
  ·simp(maxSteps:=1000000)(disch:=omega)only[push_cast,hal,h0,h1,h2,h3,h4,h10,h11,h12,c1,↓WX,simprocAttr]
  clear hal h0 h1 h2 h3 h4 h10 h11 h12 a
  clear hr c1
  rintro a T' ⟨rfl,hal,h0,h1,h2,h3,h4,h10,h11,h12,h13,h14⟩
  -- the reversal
  refine wc_scut (λa T'=>∃(d3:Array El) (pv:Nat) (e:Int),a.length=148/\a[0]?=some (.os k 0 N x)/\a[1]?=some (.int .i64 p)/\a[2]?=some (.int .i64 q)/\a[3]?=some (.int .i64 l2)/\a[4]?=some (cf)/\a[10]?=some (.bool wb)/\a[11]?=some (.bool wp)/\a[12]?=some (.int .i64 ln)/\a[13]?=some (.int .i64 pv)/\a[14]?=some (.int .i64 e)/\(p<=pv/\pv<q)/\R S0 k d3 T'/\Sort.PermIn p q d1 d3) ?_ ?_
  ·by_cases ge:e=2
   ·obtain⟨_,T1,c1,r4,s4⟩:=rev_d (cf:=cf) (n:=n') (lo:=p) (hi:=q) (x:=x) (by omega) (by omega) (by omega) (by omega) r3
    rw[hs2]at c1
    have c1:=(callD_own (f:=162) rfl pure_own).trans c1
    obtain⟨pv2,hpv3⟩:∃pv2,pv2=(q-1)-(pv-p):=⟨_,rfl⟩
    have w2:IntKind.i64.wrap (IntKind.i64.wrap ((q:Int)-1)-IntKind.i64.wrap ((pv:Int)-(p:Int)))=(pv2:Int):=by
     rw[wrap_ok (x:=(q:Int)-1) (by omega) (by omega),wrap_ok (x:=(pv:Int)-(p:Int)) (by omega) (by omega),wrap_ok (by omega) (by omega)];omega
    simp(maxSteps:=1000000)(disch:=omega)only[push_cast,hal,h0,h1,h2,h3,h4,h10,h11,h12,h13,h14,ge,c1,w2,↓WX,simprocAttr]
    exact⟨_,pv2,_,rfl,rfl,by omega,r4,Sort.permIn_trans _ _ _ _ _ hP2 (Sort.reverseRange_holds d2 p q hpq (by omega))⟩
   ·simp(maxSteps:=1000000)(disch:=omega)only[push_cast,hal,h0,h1,h2,h3,h4,h10,h11,h12,h13,h14,ge,↓WX,simprocAttr]
    exact⟨d2,pv,e,rfl,rfl,by omega,r3,hP2⟩
  clear hal h0 h1 h2 h3 h4 h10 h11 h12 h13 h14 a
  clear r3 hpv1 hpv2 hP2 hs2
  rintro a T2 ⟨d3,pv,e,hal,h0,h1,h2,h3,h4,h10,h11,h12,h13,h14,⟨hpv1,hpv2⟩,hr,hP3⟩
  have hs3:d3.size=N:=by rw[hP3.1];exact hs1
  have hB3:Sort.Below (lt c) p q d3:=Sort.Below.permA Sort.permIn_all (by omega) hB hP3
  -- the part that is sorted already
  obtain⟨_,T4,c2,rfl,r4,s4⟩:=pIns_d (n:=n') (lo:=p) (hi:=q) (x:=x) hC (by omega) (by omega) (by omega) (by omega) hr
  rw[hs3]at c2
  have c2:=(callD_own (f:=163) rfl pure_own).trans c2
  obtain⟨pp,ps⟩:=Sort.partialInsertionSort_holds (lt:=lt c) hO d3 p q (by omega) (by omega) hB3
  generalize Sort.partialInsertionSort (lt c) d3 p q=z at*
  obtain⟨d4',b4⟩:=z
  simp only at c2 r4 s4 pp ps
  by_cases gg:wb=true/\wp=true/\e=1/\b4=true
  ·obtain⟨rfl,rfl,rfl,rfl⟩:=gg
   simp(maxSteps:=1000000)(disch:=omega)only[push_cast,hal,h0,h1,h2,h4,h10,h11,h14,c2,Tryz.f115,↓WX,simprocAttr]
   exact⟨_,r4,hF _ (Sort.permIn_trans _ _ _ _ _ hP3 pp) (ps rfl)⟩
  refine wc_scut (λa T'=>∃(d4:Array El),a.length=148/\a[0]?=some (.os k 0 N x)/\a[1]?=some (.int .i64 p)/\a[2]?=some (.int .i64 q)/\a[3]?=some (.int .i64 l2)/\a[4]?=some (cf)/\a[10]?=some (.bool wb)/\a[11]?=some (.bool wp)/\a[12]?=some (.int .i64 ln)/\a[13]?=some (.int .i64 pv)/\R S0 k d4 T'/\Sort.PermIn p q d1 d4) ?_ ?_
  ·cases wb with
   |false=>
    simp(maxSteps:=1000000)(disch:=omega)only[push_cast,hal,h0,h1,h2,h3,h4,h10,h11,h12,h13,↓WX,simprocAttr]
    exact⟨d3,hr,hP3⟩
   |true=>
    cases wp with
    |false=>
     simp(maxSteps:=1000000)(disch:=omega)only[push_cast,hal,h0,h1,h2,h3,h4,h10,h11,h12,h13,↓WX,simprocAttr]
     exact⟨d3,hr,hP3⟩
    |true=>
     by_cases ge:e=1
     case neg=>
      simp(maxSteps:=1000000)(disch:=omega)only[push_cast,hal,h0,h1,h2,h3,h4,h10,h11,h12,h13,h14,ge,↓WX,simprocAttr]
      exact⟨d3,hr,hP3⟩
     obtain rfl:b4=false:=by
      cases b4 with
      |false=>rfl
      |true=>exact absurd ⟨rfl,rfl,ge,rfl⟩ gg
     simp(maxSteps:=1000000)(disch:=omega)only[push_cast,hal,h0,h1,h2,h3,h4,h10,h11,h12,h13,h14,ge,c2,↓WX,simprocAttr]
     exact⟨d4',r4,Sort.permIn_trans _ _ _ _ _ hP3 pp⟩
  clear hal h0 h1 h2 h3 h4 h10 h11 h12 h13 h14 a
  clear hr hP3 hs3 hB3 c2 r4 s4 pp ps gg
  rintro a T2 ⟨d4,hal,h0,h1,h2,h3,h4,h10,h11,h12,h13,hr,hP4⟩
  have hs4:d4.size=N:=by rw[hP4.1];exact hs1
  have hB4:Sort.Below (lt c) p q d4:=Sort.Below.permA Sort.permIn_all (by omega) hB hP4
  have b2:pv<N:=by omega
  have i2:=row_at (d:=d4) (i:=pv) (by omega)
  -- many equal ones
  by_cases geq:0<p/\lt c d4[p-1]! d4[pv]! =false
  ·obtain⟨gp,ge⟩:=geq
   obtain⟨p1,hp1⟩:∃p1,p=p1+1:=⟨p-1,by omega⟩
   have hp1':p-1=p1:=by omega
   rw[hp1']at ge
   have w2:IntKind.i64.wrap ((p:Int)-1)=(p1:Int):=by rw[wrap_ok (by omega) (by omega)];omega
   have gp':(0:Int)<(p:Int):=by omega
   have b1:p1<N:=by omega
   have i1:=row_at (d:=d4) (i:=p1) (by omega)
   have cc:=λst=>hC (n'+1) (by omega) d4 T2 hr st d4[p1]! d4[pv]!
   have ge':¬c d4[p1]! d4[pv]! <0:=by simpa [lt] using ge
   obtain⟨_,T5,c3,rfl,r5,s5⟩:=partEq_d (n:=n') (lo:=p) (hi:=q) (pv:=pv) (x:=x) hC (by omega) hpv1 hpv2 (by omega) (by omega) hr
   rw[hs4]at c3
   have c3:=(callD_own (f:=164) rfl pure_own).trans c3
   obtain⟨⟨mid,d5⟩,hx⟩:∃z,Sort.partitionEqual (lt c) d4 p q pv=z:=⟨_,rfl⟩
   rw[hx]at c3 r5 s5
   try simp only at c3 r5 s5
   obtain⟨k1,k2,k3,k4,k5⟩:=Sort.round_eq hO (Sort.partitionEqual_holds (lt c)) gp hpv1 hpv2 (by omega) hB4 (by rw[hp1'];exact ge) hx
   simp(maxSteps:=1000000)(disch:=omega)only[push_cast,Zx,hal,h0,h1,h2,h3,h4,h10,h11,h13,w2,gp',hr.row,vtk,vln,b1,b2,i1,i2,↓wo_callv,cc,ge',c3,↓WX,simprocAttr]
   refine⟨by omega,d5,mid,q,l2,wb,wp,rfl,rfl,rfl,rfl,rfl,by omega,by omega,r5,k4,λd6 h1 h2=>?_⟩
   obtain⟨m1,m2⟩:=k5 d6 h1 h2
   exact hF d6 (Sort.permIn_trans _ _ _ _ _ hP4 m1) m2
  refine wc_scut (λa T'=>T'=T2/\a.length=148/\a[0]?=some (.os k 0 N x)/\a[1]?=some (.int .i64 p)/\a[2]?=some (.int .i64 q)/\a[3]?=some (.int .i64 l2)/\a[4]?=some (cf)/\a[10]?=some (.bool wb)/\a[11]?=some (.bool wp)/\a[12]?=some (.int .i64 ln)/\a[13]?=some (.int .i64 pv)) ?_ ?_
  ·by_cases gp:0<p
   ·obtain⟨p1,hp1⟩:∃p1,p=p1+1:=⟨p-1,by omega⟩
    have hp1':p-1=p1:=by omega
    have w2:IntKind.i64.wrap ((p:Int)-1)=(p1:Int):=by rw[wrap_ok (by omega) (by omega)];omega
    have gp':(0:Int)<(p:Int):=by omega
    have b1:p1<N:=by omega
    have i1:=row_at (d:=d4) (i:=p1) (by omega)
    have cc:=λst=>hC (n'+1) (by omega) d4 T2 hr st d4[p1]! d4[pv]!
    have ge':c d4[p1]! d4[pv]! <0:=by
     have h:=geq
     rw[hp1']at h
     simpa [lt,gp] using h
    simp(maxSteps:=1000000)(disch:=omega)only[push_cast,Zx,hal,h0,h1,h2,h3,h4,h10,h11,h12,h13,w2,gp',hr.row,vtk,vln,b1,b2,i1,i2,↓wo_callv,cc,ge',↓WX,simprocAttr]
   ·have gp':¬(0:Int)<(p:Int):=by omega
    simp(maxSteps:=1000000)(disch:=omega)only[push_cast,Zx,hal,h0,h1,h2,h3,h4,h10,h11,h12,h13,gp',↓WX,simprocAttr]
  clear hal h0 h1 h2 h3 h4 h10 h11 h12 h13 a
  clear geq i2
  rintro a T5 ⟨rfl,hal,h0,h1,h2,h3,h4,h10,h11,h12,h13⟩
  obtain⟨_,T5,c3,rfl,r5,s5⟩:=part_d (n:=n') (lo:=p) (hi:=q) (pv:=pv) (x:=x) hC (by omega) hpv1 hpv2 (by omega) (by omega) hr
  rw[hs4]at c3
  have c3:=(callD_own (f:=165) rfl pure_own).trans c3
  obtain⟨⟨mid,ap,d5⟩,hx⟩:∃z,Sort.partition (lt c) d4 p q pv=z:=⟨_,rfl⟩
  rw[hx]at c3 r5 s5
  try simp only at c3 r5 s5
  obtain⟨k1,k2,k3,k4,k5,k6,k7⟩:=Sort.round_part hO (Sort.partition_holds (lt c)) hpv1 hpv2 (by omega) hB4 hx
  obtain⟨le,hle⟩:∃le,le=mid-p:=⟨_,rfl⟩
  obtain⟨ri,hri⟩:∃ri,ri=q-mid:=⟨_,rfl⟩
  obtain⟨mi1,hmi1⟩:∃mi1,mi1=mid+1:=⟨_,rfl⟩
  have w2:IntKind.i64.wrap ((mid:Int)-(p:Int))=(le:Int):=by rw[wrap_ok (by omega) (by omega)];omega
  have w3:IntKind.i64.wrap ((q:Int)-(mid:Int))=(ri:Int):=by rw[wrap_ok (by omega) (by omega)];omega
  have w4:IntKind.i64.wrap ((mid:Int)+1)=(mi1:Int):=by rw[wrap_ok (by omega) (by omega)];omega
  by_cases glr:le<ri
  ·obtain⟨_,T6,c4,d6,r6,q6,t6⟩:=ih (n:=n') (lo:=p) (hi:=mid) (lim:=l2) (d:=d5) (T:=T5) (by omega) (by omega) (by omega) k1 (by omega) r5 k4
   have c4:=(callD_own (f:=115) rfl pure_own).trans c4
   obtain⟨m1,m2⟩:=k6 d6 q6 t6
   have hs6:d6.size=N:=by rw[q6.1];omega
   simp(maxSteps:=1000000)(disch:=omega)only[push_cast,hal,h0,h1,h2,h3,h4,h12,h13,c3,w2,w3,w4,glr,c4,↓WX,simprocAttr]
   refine⟨by omega,d6,mi1,q,l2,_,ap,rfl,rfl,rfl,rfl,rfl,by omega,hs6,r6,by rw[hmi1];exact m1,λd7 h1 h2=>?_⟩
   rw[hmi1]at h1 h2
   obtain⟨e1,e2⟩:=m2 d7 h1 h2
   exact hF d7 (Sort.permIn_trans _ _ _ _ _ hP4 e1) e2
  ·obtain⟨_,T6,c4,d6,r6,q6,t6⟩:=ih (n:=n') (lo:=mi1) (hi:=q) (lim:=l2) (d:=d5) (T:=T5) (by omega) (by omega) (by omega) (by omega) (by omega) r5 (by rw[hmi1];exact k5)
   have c4:=(callD_own (f:=115) rfl pure_own).trans c4
   rw[hmi1]at q6 t6
   obtain⟨m1,m2⟩:=k7 d6 q6 t6
   have hs6:d6.size=N:=by rw[q6.1];omega
   simp(maxSteps:=1000000)(disch:=omega)only[push_cast,hal,h0,h1,h2,h3,h4,h12,h13,c3,w2,w3,w4,glr,c4,↓WX,simprocAttr]
   refine⟨by omega,d6,p,mid,l2,_,ap,rfl,rfl,rfl,rfl,rfl,by omega,hs6,r6,m1,λd7 h1 h2=>?_⟩
   obtain⟨e1,e2⟩:=m2 d7 h1 h2
   exact hF d7 (Sort.permIn_trans _ _ _ _ _ hP4 e1) e2
theorem sort_d {n n0:Nat} {x:Bool} (hC:CmpOk n0 S0 k cf c) (hO:Sort.SWO (lt c)) (hz:d.size<1100) (hn:n0+2*d.size+70<=n) (h:R S0 k d T):
  WO (dcall E (n+1) 51 [.os k 0 d.size x,cf] T) λ_ T'=>∃d':Array El,R S0 k d' T'/\Sort.PermIn 0 d.size d d'/\Sort.SortedIn (lt c) 0 d.size d':=by
 obtain⟨n',rfl⟩:∃n',n=n'+1:=⟨n-1,by omega⟩
 obtain⟨lim,bl⟩:=bl_c (n:=n'+1) (by omega) hz
 obtain⟨_,T1,c1,d1,r1,p1,s1⟩:=pdq_d (x:=x) hC hO hz d.size (n:=n') (lo:=0) (hi:=d.size) (lim:=lim) (by omega) (by omega) rfl (by omega) (by omega) h (.inl rfl)
 have c1:=(callD_own (f:=115) rfl pure_own).trans c1
 rw[Int.natCast_zero]at c1
 have w1:IntKind.u64.wrap (d.size:Int)=(d.size:Int):=by
  show ((d.size:Int)) % 18446744073709551616=d.size
  omega
 refine wo_dcall Tryz.func51 rfl (by decide) rfl 14 rfl (λa hal ha=>?_)
 have h0:a[0]?=some (.os k 0 d.size x):=ha 0 (by simp)
 have h1:a[1]?=some (cf):=ha 1 (by simp)
 clear ha
 simp(maxSteps:=1000000)(disch:=omega)only[push_cast,hal,h0,h1,w1,bl,c1,Tryz.f51,↓WX,simprocAttr]
 exact⟨d1,r1,p1,s1⟩
end Srp
end Go.Proofs.YtaklebjoenophaaGreat.Dm
