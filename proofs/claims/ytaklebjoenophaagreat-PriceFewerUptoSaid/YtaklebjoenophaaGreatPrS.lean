/-
  Percentages, surcharges, what passengers pay, and sums: the program, exactly.
  Surcharges, what passengers pay, and whether a routing allows a way: the program, exactly.
-/
import Derived.Test.YtaklebjoenophaaGreatPrR
set_option maxHeartbeats 64000000
set_option maxRecDepth 100000
set_option linter.unusedSimpArgs false
set_option linter.unusedVariables false
namespace Go.Proofs.YtaklebjoenophaaGreat.Dm
open Go Gw
theorem and32 {x:Int} (h0:0<=x) (h1:x<18446744073709551616):IntKind.u64.wrap (((BitVec.ofInt 64 x &&& BitVec.ofInt 64 4294967295).toNat:Nat):Int)=x % 4294967296:=by
 obtain⟨X,rfl⟩:=Int.eq_ofNat_of_zero_le h0
 have e1:BitVec.ofInt 64 (X:Int)=BitVec.ofNat 64 X:=by
  apply BitVec.eq_of_toNat_eq
  simp
 have e2:BitVec.ofInt 64 (4294967295:Int)=BitVec.ofNat 64 (2 ^ 32-1):=by decide
 rw[e1,e2,BitVec.toNat_and,BitVec.toNat_ofNat,BitVec.toNat_ofNat,Nat.mod_eq_of_lt (show X<2 ^ 64 by omega),Nat.mod_eq_of_lt (show 2 ^ 32-1<2 ^ 64 by decide),Nat.and_two_pow_sub_one_eq_mod]
 have:X % 2 ^ 32<4294967296:=Nat.mod_lt _ (by decide)
 rw[uw (by omega) (by omega)]
 omega
section
variable {n : Nat}
theorem PMul64_x (x y:Int) (hx:0<=x/\x<=1099511627776) (hy:0<=y/\y<=8388608) (hn:1<=n):∀st S,callD E (dcall E n) st S 217 [.int .u64 x,.int .u64 y]=some (.tup [.int .u64 0,.int .u64 (x*y)],S):=by
 obtain⟨m,rfl⟩:∃m,n=m+1:=⟨n-1,by omega⟩
 obtain⟨x0,hx0⟩:∃x0,x0=x % 4294967296:=⟨_,rfl⟩
 obtain⟨x1,hx1⟩:∃x1,x1=x / 4294967296:=⟨_,rfl⟩
 have b0:0<=x0/\x0<4294967296:=by omega
 have b1:0<=x1/\x1<=256:=by omega
 have hxy:x=x1*4294967296+x0:=by omega
 obtain⟨p0,hp0⟩:∃p0,p0=x0*y:=⟨_,rfl⟩
 obtain⟨p1,hp1⟩:∃p1,p1=x1*y:=⟨_,rfl⟩
 have c0:0<=p0/\p0<=4294967295*8388608:=by
  rw[hp0]
  exact⟨Int.mul_nonneg b0.1 hy.1,Int.mul_le_mul (by omega) hy.2 hy.1 (by omega)⟩
 have c1:0<=p1/\p1<=256*8388608:=by
  rw[hp1]
  exact⟨Int.mul_nonneg b1.1 hy.1,Int.mul_le_mul b1.2 hy.2 hy.1 (by omega)⟩
 have hxyp:x*y=p1*4294967296+p0:=by rw[hxy,Int.add_mul,hp0,hp1,Int.mul_right_comm]
 have hmn:(min 32 64:Nat)=32:=by decide
 have f1:IntKind.u64.wrap (((BitVec.ofInt 64 x &&& BitVec.ofInt 64 4294967295).toNat:Nat):Int)=x0:=by rw[and32 (by omega) (by omega),hx0]
 have f2:IntKind.u64.wrap (((BitVec.ofInt 64 y &&& BitVec.ofInt 64 4294967295).toNat:Nat):Int)=y:=by rw[and32 (by omega) (by omega)];omega
 have f3:x.fdiv 4294967296=x1:=by rw[hx1,Int.fdiv_eq_ediv_of_nonneg _ (by omega)]
 have f4:y.fdiv 4294967296=0:=by rw[Int.fdiv_eq_ediv_of_nonneg _ (by omega)];omega
 have w0:IntKind.u64.wrap x0=x0:=uw (by omega) (by omega)
 have wy:IntKind.u64.wrap y=y:=uw (by omega) (by omega)
 have wp0:IntKind.u64.wrap (x0*y)=p0:=by rw[<-hp0];exact uw (by omega) (by omega)
 have wp1:IntKind.u64.wrap (x1*y)=p1:=by rw[<-hp1];exact uw (by omega) (by omega)
 obtain⟨t0,ht0⟩:∃t0,t0=p0 / 4294967296:=⟨_,rfl⟩
 have f5:p0.fdiv 4294967296=t0:=by rw[ht0,Int.fdiv_eq_ediv_of_nonneg _ (by omega)]
 obtain⟨t,ht⟩:∃t,t=p1+t0:=⟨_,rfl⟩
 have wt:IntKind.u64.wrap (p1+t0)=t:=by rw[<-ht];exact uw (by omega) (by omega)
 have bt:0<=t/\t<4294967296:=by omega
 have f6:IntKind.u64.wrap (((BitVec.ofInt 64 t &&& BitVec.ofInt 64 4294967295).toNat:Nat):Int)=t:=by rw[and32 (by omega) (by omega)];omega
 have wt2:IntKind.u64.wrap t=t:=uw (by omega) (by omega)
 have f7:t.fdiv 4294967296=0:=by rw[Int.fdiv_eq_ediv_of_nonneg _ (by omega)];omega
 have wz:IntKind.u64.wrap 0=0:=uw (by omega) (by omega)
 have wl:IntKind.u64.wrap (x*y)=x*y:=uw (by omega) (by omega)
 have this:WO (dcall E (m+1) 217 [.int .u64 x,.int .u64 y] []) λr T=>r=.tup [.int .u64 0,.int .u64 (x*y)]:=by
  clear hx0 hx1 hp0 hp1 ht0 ht hxy hxyp
  refine wo_dcall Tryz.func217 rfl (by decide) rfl 51 rfl (λa hal ha=>?_)
  have h0:a[0]?=some _:=ha 0 (by simp)
  have h1:a[1]?=some _:=ha 1 (by simp)
  clear ha
  refine wc_scut (λa V=>V=[]/\a.length=51/\a[0]?=some (.int .u64 x)/\a[1]?=some (.int .u64 y)) ?_ ?_
  ·simp only[push_cast,hal,h0,h1,↓WX,simprocAttr]
  rintro a V ⟨rfl,hal,h0,h1⟩
  refine wc_scut (λa V=>V=[]/\a.length=51/\a[0]?=some (.int .u64 x)/\a[1]?=some (.int .u64 y)/\a[6]?=some (.int .u64 x0)) ?_ ?_
  ·simp only[push_cast,hal,h0,h1,IntKind.bits,↓WX,simprocAttr]
   exact f1
  rintro a V ⟨rfl,hal,h0,h1,h6⟩
  refine wc_scut (λa V=>V=[]/\a.length=51/\a[0]?=some (.int .u64 x)/\a[1]?=some (.int .u64 y)/\a[6]?=some (.int .u64 x0)/\a[7]?=some (.int .u64 x1)) ?_ ?_
  ·simp only[push_cast,hal,h0,h1,h6,dShift,IntKind.bits,f3,hmn,↓WX,simprocAttr]
  rintro a V ⟨rfl,hal,h0,h1,h6,h7⟩
  refine wc_scut (λa V=>V=[]/\a.length=51/\a[0]?=some (.int .u64 x)/\a[1]?=some (.int .u64 y)/\a[6]?=some (.int .u64 x0)/\a[7]?=some (.int .u64 x1)/\a[8]?=some (.int .u64 y)) ?_ ?_
  ·simp only[push_cast,hal,h0,h1,h6,h7,IntKind.bits,↓WX,simprocAttr]
   exact f2
  rintro a V ⟨rfl,hal,h0,h1,h6,h7,h8⟩
  refine wc_scut (λa V=>V=[]/\a.length=51/\a[0]?=some (.int .u64 x)/\a[1]?=some (.int .u64 y)/\a[6]?=some (.int .u64 x0)/\a[7]?=some (.int .u64 x1)/\a[8]?=some (.int .u64 y)/\a[9]?=some (.int .u64 0)) ?_ ?_
  ·simp only[push_cast,hal,h0,h1,h6,h7,h8,dShift,IntKind.bits,f4,hmn,↓WX,simprocAttr]
  rintro a V ⟨rfl,hal,h0,h1,h6,h7,h8,h9⟩
  refine wc_scut (λa V=>V=[]/\a.length=51/\a[0]?=some (.int .u64 x)/\a[1]?=some (.int .u64 y)/\a[6]?=some (.int .u64 x0)/\a[7]?=some (.int .u64 x1)/\a[8]?=some (.int .u64 y)/\a[9]?=some (.int .u64 0)/\a[10]?=some (.int .u64 p0)) ?_ ?_
  ·simp only[push_cast,hal,h0,h1,h6,h7,h8,h9,wp0,↓WX,simprocAttr]
  rintro a V ⟨rfl,hal,h0,h1,h6,h7,h8,h9,h10⟩
  refine wc_scut (λa V=>V=[]/\a.length=51/\a[0]?=some (.int .u64 x)/\a[1]?=some (.int .u64 y)/\a[6]?=some (.int .u64 x0)/\a[7]?=some (.int .u64 x1)/\a[9]?=some (.int .u64 0)/\a[11]?=some (.int .u64 t)) ?_ ?_
  ·simp only[push_cast,hal,h0,h1,h6,h7,h8,h9,h10,dShift,IntKind.bits,f5,wp1,wt,hmn,↓WX,simprocAttr]
  rintro a V ⟨rfl,hal,h0,h1,h6,h7,h9,h11⟩
  refine wc_scut (λa V=>V=[]/\a.length=51/\a[0]?=some (.int .u64 x)/\a[1]?=some (.int .u64 y)/\a[6]?=some (.int .u64 x0)/\a[7]?=some (.int .u64 x1)/\a[9]?=some (.int .u64 0)/\a[11]?=some (.int .u64 t)/\a[12]?=some (.int .u64 t)) ?_ ?_
  ·simp only[push_cast,hal,h0,h1,h6,h7,h9,h11,IntKind.bits,↓WX,simprocAttr]
   exact f6
  rintro a V ⟨rfl,hal,h0,h1,h6,h7,h9,h11,h12⟩
  refine wc_scut (λa V=>V=[]/\a.length=51/\a[0]?=some (.int .u64 x)/\a[1]?=some (.int .u64 y)/\a[6]?=some (.int .u64 x0)/\a[7]?=some (.int .u64 x1)/\a[9]?=some (.int .u64 0)/\a[12]?=some (.int .u64 t)/\a[13]?=some (.int .u64 0)) ?_ ?_
  ·simp only[push_cast,hal,h0,h1,h6,h7,h9,h11,h12,dShift,IntKind.bits,f7,hmn,↓WX,simprocAttr]
  rintro a V ⟨rfl,hal,h0,h1,h6,h7,h9,h12,h13⟩
  refine wc_scut (λa V=>V=[]/\a.length=51/\a[0]?=some (.int .u64 x)/\a[1]?=some (.int .u64 y)/\a[7]?=some (.int .u64 x1)/\a[9]?=some (.int .u64 0)/\a[12]?=some (.int .u64 t)/\a[13]?=some (.int .u64 0)) ?_ ?_
  ·simp only[push_cast,hal,h0,h1,h6,h7,h9,h12,h13,Int.mul_zero,Int.add_zero,wz,wt2,↓WX,simprocAttr]
  rintro a V ⟨rfl,hal,h0,h1,h7,h9,h12,h13⟩
  refine wc_scut (λa V=>V=[]/\a.length=51/\a[0]?=some (.int .u64 x)/\a[1]?=some (.int .u64 y)/\a[4]?=some (.int .u64 0)) ?_ ?_
  ·simp only[push_cast,hal,h0,h1,h7,h9,h12,h13,dShift,IntKind.bits,f7,Int.mul_zero,Int.add_zero,wz,hmn,↓WX,simprocAttr]
  rintro a V ⟨rfl,hal,h0,h1,h4⟩
  simp only[push_cast,hal,h0,h1,h4,wl,Tryz.f217,↓WX,simprocAttr]
 obtain⟨_,T,ho,rfl⟩:=this
 exact λst S=>callD_pure rfl rfl ho rfl
theorem PDiv64_x (x:Int) (hx:0<=x/\x<=18446744073709551615) (hn:1<=n):∀st S,callD E (dcall E n) st S 218 [.int .u64 0,.int .u64 x,.int .u64 10000]=some (.tup [.int .u64 (x / 10000),.int .u64 (x % 10000)],S):=by
 obtain⟨m,rfl⟩:∃m,n=m+1:=⟨n-1,by omega⟩
 have q:x.tdiv 10000=x / 10000:=Int.tdiv_eq_ediv_of_nonneg hx.1
 have r:x.tmod 10000=x % 10000:=Int.tmod_eq_emod_of_nonneg hx.1
 have w:IntKind.u64.wrap (x / 10000)=x / 10000:=uw (by omega) (by omega)
 have:WO (dcall E (m+1) 218 [.int .u64 0,.int .u64 x,.int .u64 10000] []) λv T=>v=.tup [.int .u64 (x / 10000),.int .u64 (x % 10000)]:=by
  refine wo_dcall Tryz.func218 rfl (by decide) rfl 135 rfl (λa hal ha=>?_)
  have h0:a[0]?=some _:=ha 0 (by simp)
  have h1:a[1]?=some _:=ha 1 (by simp)
  have h2:a[2]?=some _:=ha 2 (by simp)
  clear ha
  simp only[push_cast,hal,h0,h1,h2,q,r,w,Tryz.f218,↓WX,simprocAttr,WY]
 obtain⟨_,T,ho,rfl⟩:=this
 exact λst S=>callD_pure rfl rfl ho rfl
theorem PScale_x (x y:Int) (hx:0<=x/\x<=1099511627776) (hy:0<=y/\y<=8388608) (hn:2<=n):∀st S,callD E (dcall E n) st S 180 [.int .u64 x,.int .u64 y,.int .u64 10000]=some (.tup [.int .u64 (x*y / 10000),.int .u64 (x*y % 10000),.bool true],S):=by
 obtain⟨m,rfl⟩:∃m,n=m+1:=⟨n-1,by omega⟩
 have hb:0<=x*y/\x*y<=1099511627776*8388608:=⟨Int.mul_nonneg hx.1 hy.1,Int.mul_le_mul hx.2 hy.2 hy.1 (by omega)⟩
 have c1:=PMul64_x (n:=m) x y hx hy (by omega)
 generalize x*y=z at*
 have c2:=PDiv64_x (n:=m) z (by omega) (by omega)
 generalize z / 10000=q at*
 generalize z % 10000=r at*
 have:WO (dcall E (m+1) 180 [.int .u64 x,.int .u64 y,.int .u64 10000] []) λv T=>v=.tup [.int .u64 q,.int .u64 r,.bool true]:=by
  refine wo_dcall Tryz.func180 rfl (by decide) rfl 31 rfl (λa hal ha=>?_)
  have h0:a[0]?=some _:=ha 0 (by simp)
  have h1:a[1]?=some _:=ha 1 (by simp)
  have h2:a[2]?=some _:=ha 2 (by simp)
  clear ha
  simp only[push_cast,hal,h0,h1,h2,c1,c2,Xe,Tryz.f180,↓WX,simprocAttr,WY]
 obtain⟨_,T,ho,rfl⟩:=this
 exact λst S=>callD_pure rfl rfl ho rfl
theorem PPercent_x (x y:Int) (hx:0<=x) (hy:0<=y/\y<=8388608) (hn:3<=n):∀st S,callD E (dcall E n) st S 127 [.int .i64 x,.int .i64 y]=some (.tup [.int .i64 (pctF x y).1,.int .i64 (pctF x y).2],S):=by
 obtain⟨m,rfl⟩:∃m,n=m+1:=⟨n-1,by omega⟩
 have cx:=PFits_x (n:=m) x (by omega)
 have cy:=PFits_x (n:=m) y (by omega)
 rw[Yn (show -1099511627776<=x by omega),Bool.true_and]at cx
 rw[Yn (show -1099511627776<=y by omega),Bool.true_and,Yn (show y<=1099511627776 by omega)]at cy
 obtain⟨z,hz⟩:∃z,z=pctF x y:=⟨_,rfl⟩
 rw[<-hz]
 unfold pctF at hz
 have:WO (dcall E (m+1) 127 [.int .i64 x,.int .i64 y] []) λv T=>v=.tup [.int .i64 z.1,.int .i64 z.2]:=by
  by_cases c:1099511627776<x
  ·rw[if_pos c]at hz
   subst hz
   rw[Ym (show ¬x<=1099511627776 by omega)]at cx
   refine wo_dcall Tryz.func127 rfl (by decide) rfl 56 rfl (λa hal ha=>?_)
   have h0:a[0]?=some _:=ha 0 (by simp)
   have h1:a[1]?=some _:=ha 1 (by simp)
   clear ha
   simp only[push_cast,hal,h0,cx,Tryz.f127,↓WX,simprocAttr,WY]
  rw[if_neg c]at hz
  rw[Yn (show x<=1099511627776 by omega)]at cx
  have s1:=PSize_x (n:=m) x hx (by omega) (by omega)
  have s2:=PSize_x (n:=m) y hy.1 (by omega) (by omega)
  have s3:=PScale_x (n:=m) x y ⟨hx,by omega⟩ hy (by omega)
  have hb:0<=x*y/\x*y<=1099511627776*8388608:=⟨Int.mul_nonneg hx hy.1,Int.mul_le_mul (by omega) hy.2 hy.1 (by omega)⟩
  have nx:(x<0)=False:=eq_false (by omega)
  have ny:(y<0)=False:=eq_false (by omega)
  generalize x*y=w at*
  obtain⟨q,hq⟩:∃q,q=w / 10000:=⟨_,rfl⟩
  obtain⟨r,hr⟩:∃r,r=w % 10000:=⟨_,rfl⟩
  rw[<-hq,<-hr]at s3
  have w1:IntKind.u64.wrap (q+1)=q+1:=uw (by omega) (by omega)
  have w2:IntKind.i64.wrap q=q:=wrap_ok (by omega) (by omega)
  have w3:IntKind.i64.wrap (q+1)=q+1:=wrap_ok (by omega) (by omega)
  have eb:dEq Tryz.prog 10000 4 (.bool false) (.bool false)=some true:=eq_bool false false
  refine wo_dcall Tryz.func127 rfl (by decide) rfl 56 rfl (λa hal ha=>?_)
  have h0:a[0]?=some _:=ha 0 (by simp)
  have h1:a[1]?=some _:=ha 1 (by simp)
  clear ha
  by_cases c1:r>5000
  ·have hv:(2*w+10000) / 20000=q+1:=by omega
   rw[hv]at hz
   by_cases c2:1099511627776<q+1
   ·rw[if_pos c2]at hz
    subst hz
    simp only[push_cast,Zx,hal,h0,h1,cx,cy,s1,s2,s3,nx,ny,w1,eb,c1,c2,Tryz.f127,↓WX,simprocAttr,WY]
   ·rw[if_neg c2]at hz
    subst hz
    simp only[push_cast,Zx,hal,h0,h1,cx,cy,s1,s2,s3,nx,ny,w1,w3,eb,c1,c2,Tryz.f127,↓WX,simprocAttr,WY]
  by_cases c3:r=5000
  ·have hv:(2*w+10000) / 20000=q+1:=by omega
   rw[hv]at hz
   by_cases c2:1099511627776<q+1
   ·rw[if_pos c2]at hz
    subst hz
    simp only[push_cast,Zx,hal,h0,h1,cx,cy,s1,s2,s3,nx,ny,w1,eb,c2,c3,Tryz.f127,↓WX,simprocAttr,WY]
   ·rw[if_neg c2]at hz
    subst hz
    simp only[push_cast,Zx,hal,h0,h1,cx,cy,s1,s2,s3,nx,ny,w1,w3,eb,c2,c3,Tryz.f127,↓WX,simprocAttr,WY]
  ·have hv:(2*w+10000) / 20000=q:=by omega
   rw[hv]at hz
   by_cases c2:1099511627776<q
   ·rw[if_pos c2]at hz
    subst hz
    simp only[push_cast,Zx,hal,h0,h1,cx,cy,s1,s2,s3,nx,ny,eb,c1,c2,c3,Tryz.f127,↓WX,simprocAttr,WY]
   ·rw[if_neg c2]at hz
    subst hz
    simp only[push_cast,Zx,hal,h0,h1,cx,cy,s1,s2,s3,nx,ny,w2,eb,c1,c2,c3,Tryz.f127,↓WX,simprocAttr,WY]
 obtain⟨_,T,ho,rfl⟩:=this
 exact λst S=>callD_pure rfl rfl ho rfl
end
def stpAll (ls:List (ByteArray×ByteArray)):List ByteArray->Bool
 |x::y::r=>(ls.any λl=>decide (l.1=x) && decide (l.2=y)) && stpAll ls (y::r)
 |_=>true
def lksF (o:Option Rou):List (ByteArray×ByteArray):=match o with |none=>[] |some r=>r.links
def milF (o:Option Rou):Int:=match o with |none=>0 |some r=>r.miles
def ralF (o:Option Rou) (cs:List ByteArray):Bool:=decide (((lksF o).length:Int)=0) || stpAll (lksF o) cs
theorem stpAll_drop {ls:List (ByteArray×ByteArray)} {cs:List ByteArray} {i:Nat} {x y:ByteArray} (hx:cs[i]?=some x) (hy:cs[i+1]?=some y):stpAll ls (cs.drop i)=((ls.any λl=>decide (l.1=x) && decide (l.2=y)) && stpAll ls (cs.drop (i+1))):=by
 rw[drop_at hx,drop_at hy,stpAll]
theorem stpAll_end {ls:List (ByteArray×ByteArray)} {cs:List ByteArray} {i:Nat} (h:cs.length<=i+1):stpAll ls (cs.drop i)=true:=by
 have:(cs.drop i).length<=1:=by rw[Zo];omega
 generalize cs.drop i=l at*
 match l,this with
 | [],_=>rfl
 | [x],_=>rfl
section
variable {n : Nat}
theorem PLevel_x (u k:Int) (hn:10<=n):∀st S,callD E (dcall E n) st S 126 [.int .i64 u,.int .i64 k]=some (.tup [.int .i64 (lvlF u k).1,.int .i64 (lvlF u k).2],S):=by
 obtain⟨m,rfl⟩:∃m,n=m+1:=⟨n-1,by omega⟩
 obtain⟨z,hz⟩:∃z,z=lvlF u k:=⟨_,rfl⟩
 rw[<-hz]
 unfold lvlF at hz
 have:WO (dcall E (m+1) 126 [.int .i64 u,.int .i64 k] []) λv T=>v=.tup [.int .i64 z.1,.int .i64 z.2]:=by
  refine wo_dcall Tryz.func126 rfl (by decide) rfl 33 rfl (λa hal ha=>?_)
  have h0:a[0]?=some _:=ha 0 (by simp)
  have h1:a[1]?=some _:=ha 1 (by simp)
  clear ha
  by_cases c1:u<0
  ·rw[if_pos (by omega)]at hz
   subst hz
   simp only[push_cast,hal,h0,c1,Tryz.f126,↓WX,simprocAttr]
  by_cases c2:1099511627776<u
  ·rw[if_pos (by omega)]at hz
   subst hz
   simp only[push_cast,Zx,hal,h0,c1,c2,Tryz.f126,↓WX,simprocAttr]
  by_cases c3:k<1
  ·rw[if_pos (by omega)]at hz
   subst hz
   simp only[push_cast,Zx,hal,h0,h1,c1,c2,c3,Tryz.f126,↓WX,simprocAttr]
  by_cases c4:1099511627776<k
  ·rw[if_pos (by omega)]at hz
   subst hz
   simp only[push_cast,Zx,hal,h0,h1,c1,c2,c3,c4,Tryz.f126,↓WX,simprocAttr]
  rw[if_neg (by omega)]at hz
  refine wc_scut (λa V=>V=[]/\a.length=33/\a[0]?=some (.int .i64 u)/\a[1]?=some (.int .i64 k)) ?_ ?_
  ·simp only[push_cast,hal,h0,h1,↓WX,simprocAttr]
  rintro a V ⟨rfl,hal,h0,h1⟩
  refine wc_scut (λa V=>V=[]/\a.length=33/\a[0]?=some (.int .i64 u)/\a[1]?=some (.int .i64 k)) ?_ ?_
  ·simp only[push_cast,Zx,hal,h0,h1,c1,c2,c3,c4,↓WX,simprocAttr]
  rintro a V ⟨rfl,hal,h0,h1⟩
  refine wc_rcut (λa T=>z=(0,22)/\a.length=33) ?_ ?_
  ·simp only[push_cast,↓WX,simprocAttr]
   refine wl_loop (λi a T=>(T=[]/\∃v:Int,v=5*i/\a[6]?=some (.int .i64 v)/\z=(if v<=0/\u*100<=k*100 then (0,0) else if v<=5/\u*100<=k*105 then (5,0) else if v<=10/\u*100<=k*110 then (10,0) else if v<=15/\u*100<=k*115 then (15,0) else if v<=20/\u*100<=k*120 then (20,0) else if v<=25/\u*100<=k*125 then (25,0) else (0,22)))/\a.length=33/\a[0]?=some (.int .i64 u)/\a[1]?=some (.int .i64 k)) 6 ?_ (by omega) ?_
   ·simp only[push_cast,hal,h0,h1,simprocAttr]
    refine⟨0,rfl,rfl,?_⟩
    rw[hz]
    simp only[Int.reduceLE,WY]
   clear hz
   rintro i a T hi ⟨⟨rfl,v,hv,h6,e⟩,hal,h0,h1⟩
   by_cases c5:v<=25
   case neg=>
    have e:z=(0,22):=by rw[e,if_neg (by omega),if_neg (by omega),if_neg (by omega),if_neg (by omega),if_neg (by omega),if_neg (by omega)]
    subst e
    simp only[push_cast,hal,h6,c5,↓WX,simprocAttr,WY]
   have hi5:i<6:=by omega
   have w1:IntKind.i64.wrap (u*100)=u*100:=wrap_ok (by omega) (by omega)
   have w2:IntKind.i64.wrap (100+v)=100+v:=wrap_ok (by omega) (by omega)
   have w3:IntKind.i64.wrap (v+5)=v+5:=wrap_ok (by omega) (by omega)
   obtain⟨q,hq⟩:∃q,q=k*(100+v):=⟨_,rfl⟩
   have w4:IntKind.i64.wrap (k*(100+v))=q:=by
    have h1:k*(100+v)<=1099511627776*125:=Int.mul_le_mul (by omega) (by omega) (by omega) (by omega)
    have h2:0<=k*(100+v):=Int.mul_nonneg (by omega) (by omega)
    rw[hq]
    exact wrap_ok (by omega) (by omega)
   have hkey:(u*100<=q->z=(v,0))/\(¬u*100<=q->z=(if v+5<=0/\u*100<=k*100 then (0,0) else if v+5<=5/\u*100<=k*105 then (5,0) else if v+5<=10/\u*100<=k*110 then (10,0) else if v+5<=15/\u*100<=k*115 then (15,0) else if v+5<=20/\u*100<=k*120 then (20,0) else if v+5<=25/\u*100<=k*125 then (25,0) else (0,22))):=by
    have hvs:v=0∨v=5∨v=10∨v=15∨v=20∨v=25:=by omega
    rcases hvs with rfl |rfl |rfl |rfl |rfl |rfl <;> simp only[Int.reduceAdd]at hq <;> subst hq <;> rw[e] <;> refine⟨λh=>?_,λh=>?_⟩ <;> simp[h] <;> omega
   by_cases c6:u*100<=q
   ·have e:=hkey.1 c6
    subst e
    simp only[push_cast,hal,h0,h1,h6,c5,w1,w2,w4,c6,Tryz.f126,↓WX,simprocAttr,WY]
   ·have e:=hkey.2 c6
    simp only[push_cast,hal,h0,h1,h6,c5,w1,w2,w3,w4,c6,hi5,↓WX,simprocAttr,WY]
    exact⟨v+5,by omega,rfl,e⟩
  rintro a T ⟨rfl,hal⟩
  simp only[push_cast,hal,Tryz.f126,↓WX,simprocAttr]
 obtain⟨_,T,ho,rfl⟩:=this
 exact λst S=>callD_pure rfl rfl ho rfl
theorem PApply_x (x k:Int) (hx:0<=x) (hn:4<=n):∀st S,callD E (dcall E n) st S 68 [.int .i64 x,.int .i64 k]=some (.tup [.int .i64 (aplF x k).1,.int .i64 (aplF x k).2],S):=by
 obtain⟨m,rfl⟩:∃m,n=m+1:=⟨n-1,by omega⟩
 obtain⟨z,hz⟩:∃z,z=aplF x k:=⟨_,rfl⟩
 rw[<-hz]
 unfold aplF at hz
 have:WO (dcall E (m+1) 68 [.int .i64 x,.int .i64 k] []) λv T=>v=.tup [.int .i64 z.1,.int .i64 z.2]:=by
  refine wo_dcall Tryz.func68 rfl (by decide) rfl 24 rfl (λa hal ha=>?_)
  have h0:a[0]?=some _:=ha 0 (by simp)
  have h1:a[1]?=some _:=ha 1 (by simp)
  clear ha
  by_cases c1:k<0
  ·rw[if_pos (by omega)]at hz
   subst hz
   simp only[push_cast,hal,h1,c1,Tryz.f68,↓WX,simprocAttr]
  by_cases c2:25<k
  ·rw[if_pos (by omega)]at hz
   subst hz
   simp only[push_cast,Zx,hal,h1,c1,c2,Tryz.f68,↓WX,simprocAttr]
  by_cases c3:k.tmod 5=0
  case neg=>
   rw[if_pos (.inr (.inr c3))]at hz
   subst hz
   simp only[push_cast,Zx,hal,h1,c1,c2,c3,Tryz.f68,↓WX,simprocAttr,WY]
  rw[if_neg (λh=>h.elim c1 (λh=>h.elim c2 (λh=>h c3)))]at hz
  have cp:=PPercent_x (n:=m) x ((100+k)*100) hx (by omega) (by omega)
  rw[<-hz]at cp
  have w1:IntKind.i64.wrap (100+k)=100+k:=wrap_ok (by omega) (by omega)
  obtain⟨kk,hkk⟩:∃kk,kk=(100+k)*100:=⟨_,rfl⟩
  have w2:IntKind.i64.wrap ((100+k)*100)=kk:=by rw[hkk];exact wrap_ok (by omega) (by omega)
  rw[<-hkk]at cp
  clear hz hkk
  simp only[push_cast,Zx,hal,h0,h1,c1,c2,c3,w1,w2,cp,Tryz.f68,↓WX,simprocAttr,WY]
 obtain⟨_,T,ho,rfl⟩:=this
 exact λst S=>callD_pure rfl rfl ho rfl
theorem eq_lk (a b c d:ByteArray):dEq Tryz.prog 10000 175 (.agg [.str a,.str b]) (.agg [.str c,.str d])=some (decide (a=c) && decide (b=d)):=by
 rw[show (10000:Nat)=9998+1+1 from rfl]
 have hs:Tryz.prog.stoodInHeld 175=false:=by kernel_rfl
 by_cases e1:a=c <;> by_cases e2:b=d <;> simp(decide:=true)only[push_cast,dEq,dEqs,str_eq',hs,e1,e2,decide_false,decide_true,Bool.true_and,Bool.false_and]
theorem plain_lk:plainEqT Tryz.prog 175=true:=by kernel_rfl
theorem PIndexL_x (l:List (ByteArray×ByteArray)) (lx:Bool) (hl:l.length<=1048576) (u v:ByteArray) (hn:1048590<=n):∃k:Int,decide (0<=k)=(l.any λx=>decide (x.1=u) && decide (x.2=v))/\∀st S,callD E (dcall E n) st S 214 [.sl 2 (l.map encLk) lx,.agg [.str u,.str v]]=some (.int .i64 k,S):=by
 obtain⟨m,rfl⟩:∃m,n=m+1:=⟨n-1,by omega⟩
 have hel:=λx:ByteArray×ByteArray=>eq_lk u v x.1 x.2
 have hpl:=plain_lk
 have:WO (dcall E (m+1) 214 [.sl 2 (l.map encLk) lx,.agg [.str u,.str v]] []) λr T=>∃k:Int,r=.int .i64 k/\decide (0<=k)=l.any λx=>decide (x.1=u) && decide (x.2=v):=by
  obtain⟨q,hq⟩:∃q,q=l.any λx=>decide (x.1=u) && decide (x.2=v):=⟨_,rfl⟩
  rw[<-hq]
  refine wo_dcall Tryz.func214 rfl (by decide) rfl 19 rfl (λa hal ha=>?_)
  have h0:a[0]?=some _:=ha 0 (by simp)
  have h1:a[1]?=some _:=ha 1 (by simp)
  clear ha
  obtain⟨V0,hV0⟩:∃V0:List Ob,V0=[Ob.row 2 [[.str u,.str v]]]:=⟨_,rfl⟩
  have g0:V0[0]?=some (Ob.row 2 [[.str u,.str v]]):=by rw[hV0];rfl
  refine wc_scut (λa V=>V=V0/\a.length=19/\a[0]?=some (.sl 2 (l.map encLk) lx)/\a[3]?=some (.loc 0 0 0)) ?_ ?_
  ·simp only[push_cast,hal,h0,h1,↓WX,simprocAttr]
   exact hV0.symm
  clear hV0
  rintro a V ⟨rfl,hal,h0,h3⟩
  simp only[push_cast,hal,h0,↓WX,simprocAttr]
  refine wl_loop (λi a T=>(T=V/\q=(l.drop i).any λx=>decide (x.1=u) && decide (x.2=v))/\a.length=19/\a[0]?=some (.sl 2 (l.map encLk) lx)/\a[3]?=some (.loc 0 0 0)/\a[7]?=some (.int .i64 l.length)/\a[8]?=some (.int .i64 i)) l.length ?_ (by omega) ?_
  ·simp only[push_cast,hal,h0,h3,simprocAttr,WY]
   exact hq
  rintro i a T hi ⟨⟨rfl,e⟩,hal,h0,h3,h7,h8⟩
  rcases Yf hi with hlt |rfl
  case inr=>
   rw[Zt,List.any_nil]at e
   subst e
   simp only[push_cast,decide_eq_false_iff_not,hal,h7,h8,Tryz.f214,↓WX,simprocAttr,WY]
   exact⟨_,rfl,by simp⟩
  have hltc:(i:Int)<l.length:=by omega
  obtain⟨x,hx⟩:∃x,l[i]?=some x:=⟨l[i],by simp⟩
  rw[drop_at hx,List.any_cons]at e
  have hel:=hel x
  have hb:(decide (x.1=u) && decide (x.2=v))=(decide (u=x.1) && decide (v=x.2)):=by
   by_cases a1:u=x.1 <;> by_cases a2:v=x.2 <;> simp[a1,a2,eq_comm]
   all_goals first |exact λh=>a1 h |exact λ_ h=>a2 h |skip
  rw[hb]at e
  cases c:(decide (u=x.1) && decide (v=x.2))
  ·rw[c,Bool.false_or]at e
   rw[c]at hel
   simp(maxSteps:=1000000)(disch:=omega)only[push_cast,hal,h0,h3,h7,h8,g0,hltc,hlt,hx,hel,hpl,encLk,wrap_ok,Int.natCast_add,Int.natCast_one,↓WX,simprocAttr]
   exact e
  ·rw[c,Bool.true_or]at e
   rw[c]at hel
   subst e
   simp only[push_cast,Yy,hal,h0,h3,h7,h8,g0,hltc,hx,hel,hpl,encLk,Tryz.f214,↓WX,simprocAttr]
   exact⟨_,rfl,by simp⟩
 obtain⟨_,T,ho,k,rfl,hk⟩:=this
 exact⟨k,hk,λst S=>callD_pure rfl (by simp only[pureL_cons,pureL_nil,D.pure,encLk_pure,Yj]) ho rfl⟩
theorem PContL_x (l:List (ByteArray×ByteArray)) (lx:Bool) (hl:l.length<=1048576) (u v:ByteArray) (hn:1048600<=n):∀st S,callD E (dcall E n) st S 178 [.sl 2 (l.map encLk) lx,.agg [.str u,.str v]]=some (.bool (l.any λx=>decide (x.1=u) && decide (x.2=v)),S):=by
 obtain⟨m,rfl⟩:∃m,n=m+1:=⟨n-1,by omega⟩
 obtain⟨r,hr,cr⟩:=PIndexL_x (n:=m) l lx hl u v (by omega)
 rw[<-hr]
 have:WO (dcall E (m+1) 178 [.sl 2 (l.map encLk) lx,.agg [.str u,.str v]] []) λq T=>q=.bool (decide (0<=r)):=by
  refine wo_dcall Tryz.func178 rfl (by decide) rfl 9 rfl (λa hal ha=>?_)
  have h0:a[0]?=some _:=ha 0 (by simp)
  have h1:a[1]?=some _:=ha 1 (by simp)
  clear ha
  simp only[push_cast,hal,h0,h1,cr,Xe,Tryz.f178,↓WX,simprocAttr]
 obtain⟨_,T,ho,rfl⟩:=this
 exact λst S=>callD_pure rfl (by simp only[pureL_cons,pureL_nil,D.pure,encLk_pure,Yj]) ho rfl
theorem PRAllows_x (o:Option Rou) (ho:∀r,o=some r->r.links.length<=1048576) (c:List ByteArray) (cx:Bool) (hc:c.length<=1048577) (hn:1048700<=n):∀st S,callD E (dcall E n) st S 124 [rouD o,.sl 1 (c.map Cnd.encT) cx]=some (.bool (ralF o c),S):=by
 obtain⟨m,rfl⟩:∃m,n=m+1:=⟨n-1,by omega⟩
 have:WO (dcall E (m+1) 124 [rouD o,.sl 1 (c.map Cnd.encT) cx] []) λr T=>r=.bool (ralF o c):=by
  obtain⟨q,hq⟩:∃q,q=ralF o c:=⟨_,rfl⟩
  rw[<-hq]
  cases o with
  |none=>
   have hq:q=true:=hq
   subst hq
   simp only[rouD]
   refine wo_dcall Tryz.func124 rfl (by decide) rfl 30 rfl (λa hal ha=>?_)
   have h0:a[0]?=some _:=ha 0 (by simp)
   have h1:a[1]?=some _:=ha 1 (by simp)
   clear ha
   simp only[push_cast,hal,h0,Tryz.f124,↓WX,simprocAttr,WY]
  |some r=>
   have hrl:=ho r rfl
   have hq:q=(decide ((r.links.length:Int)=0) || stpAll r.links c):=hq
   have cl:=λx y=>PContL_x (n:=m) r.links r.linksx hrl x y (by omega)
   simp only[rouD,Rou.enc]
   refine wo_dcall Tryz.func124 rfl (by decide) rfl 30 rfl (λa hal ha=>?_)
   have h0:a[0]?=some _:=ha 0 (by simp)
   have h1:a[1]?=some _:=ha 1 (by simp)
   clear ha
   obtain⟨V0,hV0⟩:∃V0:List Ob,V0=[Ob.row 3 [[.int .i64 r.num,.sl 2 (r.links.map encLk) r.linksx,.int .i64 r.miles]]]:=⟨_,rfl⟩
   have g0:V0[0]?=some (Ob.row 3 [[.int .i64 r.num,.sl 2 (r.links.map encLk) r.linksx,.int .i64 r.miles]]):=by rw[hV0];rfl
   refine wc_scut (λa V=>V=V0/\a.length=30/\a[1]?=some (.sl 1 (c.map Cnd.encT) cx)/\a[2]?=some (.loc 0 0 0)) ?_ ?_
   ·simp only[push_cast,hal,h0,h1,↓WX,simprocAttr]
    exact hV0.symm
   clear hV0
   rintro a V ⟨rfl,hal,h1,h2⟩
   cases e0:decide ((r.links.length:Int)=0)
   case true=>
    rw[e0,Bool.true_or]at hq
    subst hq
    simp only[push_cast,hal,h2,g0,e0,Tryz.f124,↓WX,simprocAttr]
   rw[e0,Bool.false_or]at hq
   refine wc_scut (λa W=>W=V/\a.length=30/\a[1]?=some (.sl 1 (c.map Cnd.encT) cx)/\a[2]?=some (.loc 0 0 0)) ?_ ?_
   ·simp only[push_cast,hal,h1,h2,g0,e0,↓WX,simprocAttr]
   rintro a W ⟨rfl,hal,h1,h2⟩
   refine wc_rcut (λa T=>q=true/\a.length=30) ?_ ?_
   ·simp only[push_cast,↓WX,simprocAttr]
    refine wl_loop (λi a T=>(T=W/\(∃j:Int,a[5]?=some (.int .i64 j)/\j=(i:Int)+1)/\q=stpAll r.links (c.drop i))/\a.length=30/\a[1]?=some (.sl 1 (c.map Cnd.encT) cx)/\a[2]?=some (.loc 0 0 0)) c.length ?_ (by omega) ?_
    ·simp only[push_cast,hal,h1,h2,simprocAttr,WY]
     exact⟨⟨1,rfl,rfl⟩,hq⟩
    clear hq
    rintro i a T hi ⟨⟨rfl,⟨j,h5,hj⟩,e⟩,hal,h1,h2⟩
    by_cases hjl:j<c.length
    case neg=>
     rw[stpAll_end (by omega)]at e
     simp only[push_cast,hal,h1,h5,hjl,↓WX,simprocAttr,WY]
     exact e
    have hlt:i<c.length:=by omega
    have hlt1:i+1<c.length:=by omega
    obtain⟨x,hx⟩:∃x,c[i]?=some x:=⟨c[i],by simp⟩
    obtain⟨y,hy⟩:∃y,c[i+1]?=some y:=⟨c[i+1],by simp⟩
    have hj0:j-1=(i:Int):=by omega
    have hjn:j.toNat=i+1:=by omega
    have hge:(0<=j)=True:=eq_true (by omega)
    have hwj:IntKind.i64.wrap (j-1)=(i:Int):=by rw[hj0];exact wrap_ok (by omega) (by omega)
    have cl:=cl x y
    rw[stpAll_drop hx hy]at e
    cases e1:(r.links.any λl=>decide (l.1=x) && decide (l.2=y))
    ·rw[e1,Bool.false_and]at e
     rw[e1]at cl
     subst e
     simp only[push_cast,hal,h1,h2,h5,g0,hjl,hx,hy,hwj,hjn,hge,cl,Cnd.encT,Tryz.f124,↓WX,simprocAttr,WY]
    ·rw[e1,Bool.true_and]at e
     rw[e1]at cl
     simp(maxSteps:=1000000)(disch:=omega)only[push_cast,hal,h1,h2,h5,g0,hjl,hlt,hx,hy,hwj,hjn,hge,cl,Bool.not_true,Cnd.encT,wrap_ok,true_and,↓WX,simprocAttr]
     exact⟨⟨_,rfl,by push_cast<;>omega⟩,e⟩
   rintro a T ⟨rfl,hal⟩
   simp only[push_cast,hal,Tryz.f124,↓WX,simprocAttr]
 obtain⟨_,T,hr,rfl⟩:=this
 exact λst S=>callD_pure rfl (by simp only[pureL_cons,pureL_nil,rouD_pure,D.pure,Cnd.encT_pure,Yj]) hr rfl
theorem rul_litP (o:Option Rul):∃c0 c1 c2 c3 c4 c5 c6 c7 c8 c9 c10 c11 c12 c13 d:D,rulD o=.agg [c0,c1,c2,c3,c4,c5,c6,c7,c8,c9,c10,c11,c12,c13,d]/\FLs 2 encPc d (pcsL o)/\[c0,c1,c2,c3,c4,c5,c6,c7,c8,c9,c10,c11,c12,c13].all D.one=true:=by
 cases o with
 |none=>exact⟨_,_,_,_,_,_,_,_,_,_,_,_,_,_,_,rfl,.inl ⟨rfl,rfl⟩,rfl⟩
 |some r=>
  obtain⟨w,hw⟩:∃w,r.when=w:=⟨_,rfl⟩
  have hxe:Rul.enc r=.int .i64 r.num::(w.enc++[.sl 1 (r.comb.map encZ) r.combx,.int .i64 r.mins,.int .i64 r.maxs,.int .i64 r.chg,.int .i64 r.ref,.sl 2 (r.pcs.map encPc) r.pcx]):=by rw[<-hw];rfl
  cases w with |mk k' l' lx' u' v' pf' pt' pd' t' tx'=>?_
  simp only[Cnd.enc,Ze,Zz]at hxe
  simp only[rulD,hxe,pcsL]
  exact⟨_,_,_,_,_,_,_,_,_,_,_,_,_,_,_,rfl,.inr ⟨_,rfl⟩,rfl⟩
theorem PPay_x (o:Option Rul) (hpl:(pcsL o).length<=1048576) (hpc:∀p∈pcsL o,0<=p.2/\p.2<=1000) (s:ByteArray) (x:Int) (hx:0<=x) (hn:1048600<=n):∀st S,callD E (dcall E n) st S 69 [rulD o,.str s,.int .i64 x]=some (.tup [.int .i64 (payF o s x).1,.int .i64 (payF o s x).2],S):=by
 obtain⟨m,rfl⟩:∃m,n=m+1:=⟨n-1,by omega⟩
 have hpo:=rulD_pure o
 obtain⟨z,hz⟩:∃z,z=payF o s x:=⟨_,rfl⟩
 rw[<-hz]
 unfold payF at hz
 obtain⟨c0,c1,c2,c3,c4,c5,c6,c7,c8,c9,c10,c11,c12,c13,d,hd,hf,hone⟩:=rul_litP o
 rw[hd]at hpo ⊢
 generalize pcsL o=l at*
 simp only[List.all_cons,List.all_nil,Yj,Ye,D.one]at hone
 obtain⟨n0,n1,n2,n3,n4,n5,n6,n7,n8,n9,n10,n11,n12,n13⟩:=hone
 have od:=fls_one hf
 simp only[D.one]at od
 have hyl:=λS=>fls_len (S:=S) Tryz.underlying71 hf
 simp only[push_cast]at hyl
 have cp0:=PPercent_x (n:=m) x 10000 hx (by omega) (by omega)
 have:WO (dcall E (m+1) 69 [.agg [c0,c1,c2,c3,c4,c5,c6,c7,c8,c9,c10,c11,c12,c13,d],.str s,.int .i64 x] []) λv T=>v=.tup [.int .i64 z.1,.int .i64 z.2]:=by
  clear hpo hd
  refine wo_dcall Tryz.func69 rfl (by decide) rfl 33 rfl (λa hal ha=>?_)
  have h0:a[0]?=some _:=ha 0 (by simp)
  have h1:a[1]?=some _:=ha 1 (by simp)
  have h2:a[2]?=some _:=ha 2 (by simp)
  clear ha
  obtain⟨V0,hV0⟩:∃V0:List Ob,V0=[Ob.row 15 [[c0,c1,c2,c3,c4,c5,c6,c7,c8,c9,c10,c11,c12,c13,d]]]:=⟨_,rfl⟩
  have g0:V0[0]?=some (Ob.row 15 [[c0,c1,c2,c3,c4,c5,c6,c7,c8,c9,c10,c11,c12,c13,d]]):=by rw[hV0];rfl
  refine wc_scut (λa V=>V=V0/\a.length=33/\a[1]?=some (.str s)/\a[2]?=some (.int .i64 x)/\a[3]?=some (.loc 0 0 0)) ?_ ?_
  ·simp only[push_cast,hal,h0,h1,h2,n0,n1,n2,n3,n4,n5,n6,n7,n8,n9,n10,n11,n12,n13,od,↓WX,simprocAttr]
   exact hV0.symm
  clear hV0 n0 n1 n2 n3 n4 n5 n6 n7 n8 n9 n10 n11 n12 n13
  rintro a V ⟨rfl,hal,h1,h2,h3⟩
  refine wc_rcut (λa T=>z=pctF x 10000/\a.length=33/\a[2]?=some (.int .i64 x)) ?_ ?_
  ·simp only[push_cast,hal,h3,g0,hyl,↓WX,simprocAttr]
   refine wl_loop (λi a T=>((∃J,T=V++J)/\z=(match (l.drop i).find? λp=>decide (p.1=s) with |none=>pctF x 10000 |some p=>pctF x (100*p.2)))/\a.length=33/\a[1]?=some (.str s)/\a[2]?=some (.int .i64 x)/\a[11]?=some (d)/\a[12]?=some (.int .i64 l.length)/\a[13]?=some (.int .i64 i)) l.length ?_ (by omega) ?_
   ·simp only[push_cast,hal,h1,h2,simprocAttr,WY]
    exact⟨⟨[],(Za _).symm⟩,hz⟩
   clear hz
   rintro i a T hi ⟨⟨⟨J,rfl⟩,e⟩,hal,h1,h2,h11,h12,h13⟩
   rcases Yf hi with hlt |rfl
   case inr=>
    rw[Zt,List.find?_nil]at e
    simp only[push_cast,hal,h2,h12,h13,↓WX,simprocAttr,WY]
    exact e
   have hltc:(i:Int)<l.length:=by omega
   obtain⟨y,hy⟩:∃y,l[i]?=some y:=⟨l[i],by simp⟩
   obtain⟨y1,y2⟩:=hpc y (Yg hy)
   rw[drop_at hy,List.find?_cons]at e
   rcases hf with ⟨-,rfl⟩ | ⟨lx,rfl⟩
   ·cases hy
   have hw:IntKind.i64.wrap (100*y.2)=100*y.2:=wrap_ok (by omega) (by omega)
   have cp:=PPercent_x (n:=m) x (100*y.2) hx (by omega) (by omega)
   cases c:decide (y.1=s)
   ·rw[c]at e
    simp(maxSteps:=1000000)(disch:=omega)only[push_cast,hal,h1,h2,h11,h12,h13,hltc,hlt,hy,c,str_eq,set_end,get_end,encPc,wrap_ok,Int.natCast_add,Int.natCast_one,true_and,↓WX,simprocAttr]
    exact⟨⟨_,Zp ..⟩,e⟩
   ·rw[c]at e
    dsimp only at e
    rw[<-e]at cp
    simp only[push_cast,hal,h1,h2,h11,h12,h13,hltc,hy,c,hw,cp,str_eq,set_end,get_end,encPc,Tryz.f69,↓WX,simprocAttr,WY]
  rintro a T ⟨rfl,hal,h2⟩
  simp only[push_cast,hal,h2,cp0,Tryz.f69,↓WX,simprocAttr]
 obtain⟨_,T,ho,rfl⟩:=this
 exact λst S=>callD_pure rfl (by simp only[pureL_cons,pureL_nil,D.pure,Yj]at hpo ⊢;exact hpo) ho rfl
end
end Go.Proofs.YtaklebjoenophaaGreat.Dm
