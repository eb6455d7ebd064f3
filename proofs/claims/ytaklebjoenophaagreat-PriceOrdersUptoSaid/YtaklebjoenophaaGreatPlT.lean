/-
  Places as plain data.
  The machine at the predicates of texts: the program's and the reference's.
  The machine at codes: the program's and the reference's say the same.
  The machine at codes of airports, countries and carriers, at decimals below 100, and at lists of violations that are compared: the program's and the reference's.
  The machine at connecting times: how exactly an element matches, and the minimum.
  The machine at minimum connecting times: both programs find the same.
-/
import Derived.Test.YtaklebjoenophaaGreatWq
set_option linter.unusedSimpArgs false
set_option linter.unusedVariables false
namespace Go.Proofs.YtaklebjoenophaaGreat.Dm
open Go Gw
set_option linter.unusedSimpArgs false

structure Shf where
 tm:Int
 off:Int
def Shf.enc (r:Shf):List D:=[.int .i64 r.tm,.int .i64 r.off]
structure Apt where
 code:ByteArray
 city:ByteArray
 ctry:ByteArray
 off:Int
 sh:List Shf
 shx:Bool
def Apt.enc (r:Apt):List D:=[.str r.code,.str r.city,.str r.ctry,.int .i64 r.off,.sl 2 (r.sh.map Shf.enc) r.shx]
structure Dst where
 fr:ByteArray
 to:ByteArray
 mi:Int
def Dst.enc (r:Dst):List D:=[.str r.fr,.str r.to,.int .i64 r.mi]
structure Plc where
 aps:List Apt
 apsx:Bool
 dts:List Dst
 dtsx:Bool
def Plc.enc (r:Plc):List D:=[.sl 5 (r.aps.map Apt.enc) r.apsx,.sl 3 (r.dts.map Dst.enc) r.dtsx]
theorem Shf_pure (r:Shf):pureL r.enc=true:=by
 simp only[D.pure,pureL_cons,pureL_nil,Bool.and_true,Bool.and_self,Shf.enc]
theorem Shfs_pure (l:List Shf):pureLL (l.map Shf.enc)=true:=by
 induction l with
 |nil=>rfl
 |cons f fs ih=>rw[List.map_cons,pureLL_cons,ih,Shf_pure];rfl
theorem Apt_pure (r:Apt):pureL r.enc=true:=by
 simp only[D.pure,pureL_cons,pureL_nil,Bool.and_true,Bool.and_self,Apt.enc,Shfs_pure]
theorem Apts_pure (l:List Apt):pureLL (l.map Apt.enc)=true:=by
 induction l with
 |nil=>rfl
 |cons f fs ih=>rw[List.map_cons,pureLL_cons,ih,Apt_pure];rfl
theorem Dst_pure (r:Dst):pureL r.enc=true:=by
 simp only[D.pure,pureL_cons,pureL_nil,Bool.and_true,Bool.and_self,Dst.enc]
theorem Dsts_pure (l:List Dst):pureLL (l.map Dst.enc)=true:=by
 induction l with
 |nil=>rfl
 |cons f fs ih=>rw[List.map_cons,pureLL_cons,ih,Dst_pure];rfl
theorem Plc_pure (r:Plc):pureL r.enc=true:=by
 simp only[D.pure,pureL_cons,pureL_nil,Bool.and_true,Bool.and_self,Plc.enc,Apts_pure,Dsts_pure]
def Shf.Ok (r:Shf):Prop:=(-9223372036854775808≤r.tm∧r.tm≤9223372036854775807)∧(-9223372036854775808≤r.off∧r.off≤9223372036854775807)∧True
def Apt.Ok (r:Apt):Prop:=r.code.size≤9223372036854775807∧r.city.size≤9223372036854775807∧r.ctry.size≤9223372036854775807∧(-9223372036854775808≤r.off∧r.off≤9223372036854775807)∧((∀e∈r.sh,e.Ok)∧r.sh.length≤9223372036854775807)∧True
def Dst.Ok (r:Dst):Prop:=r.fr.size≤9223372036854775807∧r.to.size≤9223372036854775807∧(-9223372036854775808≤r.mi∧r.mi≤9223372036854775807)∧True
def Plc.Ok (r:Plc):Prop:=((∀e∈r.aps,e.Ok)∧r.aps.length≤9223372036854775807)∧((∀e∈r.dts,e.Ok)∧r.dts.length≤9223372036854775807)∧True
end Go.Proofs.YtaklebjoenophaaGreat.Dm
namespace Go.Proofs.YtaklebjoenophaaGreat.Dm
open Go
set_option linter.unusedSimpArgs false

def callV (E:Env) (call:Call) (dr:Bool) (S:List Ob) (d:D) (l:List D):Option (D×List Ob):=
 match d with
 | .func g first cap=>if dr && !(decide (E.mode g=.pure) || decide (E.mode g=.obs)) then none else callD E call dr S g (first++l++cap)
 |_=>none
theorem byte_at' {s:ByteArray} {i:Nat} (h:i<s.size):∃b,s[i]? =some b:=⟨s[i],by simp[h]⟩
def capB (b:UInt8):Bool:=decide (65≤b.toNat) && decide (b.toNat≤90)
def digB (b:UInt8):Bool:=decide (48≤b.toNat) && decide (b.toNat≤57)
def cdB (b:UInt8):Bool:=capB b || digB b
def evr (p:UInt8→Bool) (s:ByteArray):Nat→Bool
 |0=>true
 |i+1=>evr p s i && p ((s[i]?).getD 0)
theorem evr_mono {p:UInt8→Bool} {s:ByteArray} {i j:Nat} (h:evr p s i=false) (hij:i≤j):evr p s j=false:=by
 induction j with
 |zero=>have:i=0:=by omega
        subst this;exact h
 |succ j ih=>
  rcases Nat.lt_or_eq_of_le hij with hlt |rfl
  ·rw[evr,ih (by omega)];rfl
  ·exact h
theorem evr_no {p:UInt8→Bool} {s:ByteArray} {i:Nat} {b:UInt8} (hi:i<s.size) (hb:s[i]? =some b) (hp:p b=false):evr p s s.size=false:=
 evr_mono (i:=i+1) (by rw[evr,hb,Option.getD_some,hp,Bool.and_false]) hi
set_option maxRecDepth 100000 in
theorem upper_d {n:Nat} {b:UInt8} {S:List Ob}:WO (dcall E (n+1) 151 [.int .u8 b.toNat] S) fun d T=>d=.bool (capB b)∧T=S:=by
 refine wo_dcall Tryz.func151 rfl (by decide) rfl 9 rfl (fun a hal ha=>?_)
 have h0:a[0]? =some (.int .u8 b.toNat):=ha 0 (by simp)
 clear ha
 unfold capB
 by_cases h1:65≤b.toNat
 ·have h1':(65:Int)≤(b.toNat:Int):=by omega
  by_cases h2:b.toNat≤90
  ·have h2':(b.toNat:Int)≤90:=by omega
   simp(maxSteps:=1000000)(disch:=omega)only[push_cast,decide_not,decide_eq_true_eq,decide_eq_false_iff_not,bne_eq_false_iff_eq,beq_eq_false_iff_ne,gt_iff_lt,ne_eq,not_true_eq_false,not_false_eq_true,hal,h0,h1,h1',h2,h2',ge_iff_le,decide_true,Bool.and_true,Tryz.f151,↓WX,simprocAttr]
  ·have h2':¬(b.toNat:Int)≤90:=by omega
   simp(maxSteps:=1000000)(disch:=omega)only[push_cast,decide_not,decide_eq_true_eq,decide_eq_false_iff_not,bne_eq_false_iff_eq,beq_eq_false_iff_ne,gt_iff_lt,ne_eq,not_true_eq_false,not_false_eq_true,hal,h0,h1,h1',h2,h2',ge_iff_le,decide_true,decide_false,Bool.and_false,Tryz.f151,↓WX,simprocAttr]
 ·have h1':¬(65:Int)≤(b.toNat:Int):=by omega
  simp(maxSteps:=1000000)(disch:=omega)only[push_cast,decide_not,decide_eq_true_eq,decide_eq_false_iff_not,bne_eq_false_iff_eq,beq_eq_false_iff_ne,gt_iff_lt,ne_eq,not_true_eq_false,not_false_eq_true,hal,h0,h1,h1',ge_iff_le,decide_false,Bool.false_and,Tryz.f151,↓WX,simprocAttr]
theorem upper_c {n:Nat} (hn:1≤n) (b:UInt8) (st:Bool) (S:List Ob):callD E (dcall E n) st S 151 [.int .u8 b.toNat]=some (.bool (capB b),S):=by
 obtain⟨m,rfl⟩:∃m,n=m+1:=⟨n-1,by omega⟩
 exact callD_pure rfl rfl (eq_of_wo upper_d) rfl
set_option maxRecDepth 100000 in
theorem ref_digit_d {n:Nat} {b:UInt8} {S:List Ob}:WO (dcall E (n+1) 152 [.int .u8 b.toNat] S) fun d T=>d=.bool (digB b)∧T=S:=by
 refine wo_dcall Tryz.func152 rfl (by decide) rfl 9 rfl (fun a hal ha=>?_)
 have h0:a[0]? =some (.int .u8 b.toNat):=ha 0 (by simp)
 clear ha
 unfold digB
 by_cases h1:48≤b.toNat
 ·have h1':(48:Int)≤(b.toNat:Int):=by omega
  by_cases h2:b.toNat≤57
  ·have h2':(b.toNat:Int)≤57:=by omega
   simp(maxSteps:=1000000)(disch:=omega)only[push_cast,decide_not,decide_eq_true_eq,decide_eq_false_iff_not,bne_eq_false_iff_eq,beq_eq_false_iff_ne,gt_iff_lt,ne_eq,not_true_eq_false,not_false_eq_true,hal,h0,h1,h1',h2,h2',ge_iff_le,decide_true,Bool.and_true,Tryz.f152,↓WX,simprocAttr]
  ·have h2':¬(b.toNat:Int)≤57:=by omega
   simp(maxSteps:=1000000)(disch:=omega)only[push_cast,decide_not,decide_eq_true_eq,decide_eq_false_iff_not,bne_eq_false_iff_eq,beq_eq_false_iff_ne,gt_iff_lt,ne_eq,not_true_eq_false,not_false_eq_true,hal,h0,h1,h1',h2,h2',ge_iff_le,decide_true,decide_false,Bool.and_false,Tryz.f152,↓WX,simprocAttr]
 ·have h1':¬(48:Int)≤(b.toNat:Int):=by omega
  simp(maxSteps:=1000000)(disch:=omega)only[push_cast,decide_not,decide_eq_true_eq,decide_eq_false_iff_not,bne_eq_false_iff_eq,beq_eq_false_iff_ne,gt_iff_lt,ne_eq,not_true_eq_false,not_false_eq_true,hal,h0,h1,h1',ge_iff_le,decide_false,Bool.false_and,Tryz.f152,↓WX,simprocAttr]
theorem ref_digit_c {n:Nat} (hn:1≤n) (b:UInt8) (st:Bool) (S:List Ob):callD E (dcall E n) st S 152 [.int .u8 b.toNat]=some (.bool (digB b),S):=by
 obtain⟨m,rfl⟩:∃m,n=m+1:=⟨n-1,by omega⟩
 exact callD_pure rfl rfl (eq_of_wo ref_digit_d) rfl
def codeS (s:ByteArray) (least most:Int):Bool:=decide (least≤s.size) && decide ((s.size:Int)≤most) && evr cdB s s.size
set_option maxHeartbeats 800000 in
set_option maxRecDepth 100000 in
theorem ref_Code_d {n:Nat} {s:ByteArray} {l m:Int} {S:List Ob} (hn:s.size+3<n) (hz:s.size≤9223372036854775807):
  WO (dcall E (n+1) 105 [.str s,.int .i64 l,.int .i64 m] S) fun d T=>d=.bool (codeS s l m)∧T=S:=by
 have c3:=upper_c (n:=n) (by omega)
 have c4:=ref_digit_c (n:=n) (by omega)
 refine wo_dcall Tryz.func105 rfl (by decide) rfl 36 rfl (fun a hal ha=>?_)
 have h0:a[0]? =some (.str s):=ha 0 (by simp)
 have h1:a[1]? =some (.int .i64 l):=ha 1 (by simp)
 have h2:a[2]? =some (.int .i64 m):=ha 2 (by simp)
 clear ha
 simp(maxSteps:=1000000)(disch:=omega)only[push_cast,decide_not,decide_eq_true_eq,decide_eq_false_iff_not,bne_eq_false_iff_eq,beq_eq_false_iff_ne,gt_iff_lt,ne_eq,not_true_eq_false,not_false_eq_true,hal,h0,h1,h2,↓WX,simprocAttr]
 refine wl_loop (fun i a T=>T=S∧a.length=36∧a[0]? =some (.str s)∧a[1]? =some (.int .i64 l)∧a[2]? =some (.int .i64 m)∧a[7]? =some (.int .i64 i)∧evr cdB s i=true) s.size ?_ (by omega) ?_
 ·simp(maxSteps:=1000000)(disch:=omega)only[push_cast,decide_not,decide_eq_true_eq,decide_eq_false_iff_not,bne_eq_false_iff_eq,beq_eq_false_iff_ne,gt_iff_lt,ne_eq,not_true_eq_false,not_false_eq_true,hal,h0,h1,h2,evr,Int.natCast_zero,↓WX,simprocAttr]
 ·rintro i a T hi ⟨rfl,hal,h0,h1,h2,h7,hv⟩
  rcases Nat.lt_or_eq_of_le hi with hlt |rfl
  ·obtain⟨b,hb⟩:=byte_at' hlt
   cases hp:capB b
   ·cases hq:digB b
    ·simp(maxSteps:=1000000)(disch:=omega)only[push_cast,decide_not,decide_eq_true_eq,decide_eq_false_iff_not,bne_eq_false_iff_eq,beq_eq_false_iff_ne,gt_iff_lt,ne_eq,not_true_eq_false,not_false_eq_true,hal,h0,h1,h2,h7,hlt,hb,c3,c4,hp,hq,dUn,wrap_ok,Tryz.f105,↓WX,simprocAttr]
     unfold codeS
     rw[evr_no hlt hb (by unfold cdB;rw[hp,hq];rfl),Bool.and_false]
    ·have hcd:cdB b=true:=by unfold cdB;rw[hp,hq];rfl
     simp(maxSteps:=1000000)(disch:=omega)only[push_cast,decide_not,decide_eq_true_eq,decide_eq_false_iff_not,bne_eq_false_iff_eq,beq_eq_false_iff_ne,gt_iff_lt,ne_eq,not_true_eq_false,not_false_eq_true,hal,h0,h1,h2,h7,hlt,hb,c3,c4,hp,hq,dUn,wrap_ok,evr,hv,hcd,Int.natCast_add,Int.natCast_one,↓WX,simprocAttr]
   ·have hcd:cdB b=true:=by unfold cdB;rw[hp];rfl
    simp(maxSteps:=1000000)(disch:=omega)only[push_cast,decide_not,decide_eq_true_eq,decide_eq_false_iff_not,bne_eq_false_iff_eq,beq_eq_false_iff_ne,gt_iff_lt,ne_eq,not_true_eq_false,not_false_eq_true,hal,h0,h1,h2,h7,hlt,hb,c3,c4,hp,dUn,wrap_ok,evr,hv,hcd,Int.natCast_add,Int.natCast_one,↓WX,simprocAttr]
  ·unfold codeS
   by_cases c1:l≤s.size
   ·by_cases c2:(s.size:Int)≤m
    ·simp(maxSteps:=1000000)(disch:=omega)only[push_cast,decide_not,decide_eq_true_eq,decide_eq_false_iff_not,bne_eq_false_iff_eq,beq_eq_false_iff_ne,gt_iff_lt,ne_eq,not_true_eq_false,not_false_eq_true,hal,h0,h1,h2,h7,c1,c2,hv,Nat.lt_irrefl,ge_iff_le,decide_true,Bool.true_and,Tryz.f105,↓WX,simprocAttr]
    ·simp(maxSteps:=1000000)(disch:=omega)only[push_cast,decide_not,decide_eq_true_eq,decide_eq_false_iff_not,bne_eq_false_iff_eq,beq_eq_false_iff_ne,gt_iff_lt,ne_eq,not_true_eq_false,not_false_eq_true,hal,h0,h1,h2,h7,c1,c2,hv,Nat.lt_irrefl,ge_iff_le,decide_true,decide_false,Bool.true_and,Bool.false_and,Tryz.f105,↓WX,simprocAttr]
   ·simp(maxSteps:=1000000)(disch:=omega)only[push_cast,decide_not,decide_eq_true_eq,decide_eq_false_iff_not,bne_eq_false_iff_eq,beq_eq_false_iff_ne,gt_iff_lt,ne_eq,not_true_eq_false,not_false_eq_true,hal,h0,h1,h2,h7,c1,hv,Nat.lt_irrefl,ge_iff_le,decide_false,Bool.false_and,Tryz.f105,↓WX,simprocAttr]
def lettS (s:ByteArray) (k:Nat):Bool:=decide (s.size=k) && evr capB s s.size
set_option maxHeartbeats 800000 in
set_option maxRecDepth 100000 in
theorem letters_d {n k:Nat} {s:ByteArray} {S:List Ob} (hn:s.size+3<n) (hz:s.size≤9223372036854775807):
  WO (dcall E (n+1) 149 [.str s,.int .i64 k] S) fun d T=>d=.bool (lettS s k)∧T=S:=by
 have c3:=upper_c (n:=n) (by omega)
 refine wo_dcall Tryz.func149 rfl (by decide) rfl 21 rfl (fun a hal ha=>?_)
 have h0:a[0]? =some (.str s):=ha 0 (by simp)
 have h1:a[1]? =some (.int .i64 k):=ha 1 (by simp)
 clear ha
 simp(maxSteps:=1000000)(disch:=omega)only[push_cast,decide_not,decide_eq_true_eq,decide_eq_false_iff_not,bne_eq_false_iff_eq,beq_eq_false_iff_ne,gt_iff_lt,ne_eq,not_true_eq_false,not_false_eq_true,hal,h0,h1,↓WX,simprocAttr]
 refine wl_loop (fun i a T=>T=S∧a.length=21∧a[0]? =some (.str s)∧a[1]? =some (.int .i64 k)∧a[5]? =some (.int .i64 i)∧evr capB s i=true) s.size ?_ (by omega) ?_
 ·simp(maxSteps:=1000000)(disch:=omega)only[push_cast,decide_not,decide_eq_true_eq,decide_eq_false_iff_not,bne_eq_false_iff_eq,beq_eq_false_iff_ne,gt_iff_lt,ne_eq,not_true_eq_false,not_false_eq_true,hal,h0,h1,evr,Int.natCast_zero,↓WX,simprocAttr]
 ·rintro i a T hi ⟨rfl,hal,h0,h1,h5,hv⟩
  rcases Nat.lt_or_eq_of_le hi with hlt |rfl
  ·obtain⟨b,hb⟩:=byte_at' hlt
   cases hp:capB b
   ·simp(maxSteps:=1000000)(disch:=omega)only[push_cast,decide_not,decide_eq_true_eq,decide_eq_false_iff_not,bne_eq_false_iff_eq,beq_eq_false_iff_ne,gt_iff_lt,ne_eq,not_true_eq_false,not_false_eq_true,hal,h0,h1,h5,hlt,hb,c3,hp,dUn,wrap_ok,Tryz.f149,↓WX,simprocAttr]
    unfold lettS
    rw[evr_no hlt hb hp,Bool.and_false]
   ·simp(maxSteps:=1000000)(disch:=omega)only[push_cast,decide_not,decide_eq_true_eq,decide_eq_false_iff_not,bne_eq_false_iff_eq,beq_eq_false_iff_ne,gt_iff_lt,ne_eq,not_true_eq_false,not_false_eq_true,hal,h0,h1,h5,hlt,hb,c3,hp,dUn,wrap_ok,evr,hv,Int.natCast_add,Int.natCast_one,↓WX,simprocAttr]
  ·unfold lettS
   have hk:decide ((s.size:Int)=(k:Int))=decide (s.size=k):=decide_eq_decide.2 (by omega)
   simp(maxSteps:=1000000)(disch:=omega)only[push_cast,decide_not,decide_eq_true_eq,decide_eq_false_iff_not,bne_eq_false_iff_eq,beq_eq_false_iff_ne,gt_iff_lt,ne_eq,not_true_eq_false,not_false_eq_true,hal,h0,h1,h5,hv,hk,Nat.lt_irrefl,Bool.and_true,Tryz.f149,↓WX,simprocAttr]
end Go.Proofs.YtaklebjoenophaaGreat.Dm
namespace Go.Proofs.YtaklebjoenophaaGreat.Dm
open Go Gw
set_option linter.unusedSimpArgs false

theorem rAirport_c {n:Nat} {s:ByteArray} (hn:s.size+5<n) (hz:s.size≤9223372036854775807) (st:Bool) (S:List Ob):callD E (dcall E n) st S 98 [.str s]=some (.bool (lettS s 3),S):=by
 obtain⟨m,rfl⟩:∃m,n=m+2:=⟨n-2,by omega⟩
 have q:∀st S,callD E (dcall E (m+1)) st S 149 [.str s,.int .i64 3]=some (.bool (lettS s 3),S):=fun st S=>callD_pure rfl rfl (eq_of_wo (letters_d (k:=3) (by omega) hz)) rfl
 have:WO (dcall E (m+2) 98 [.str s] []) fun d T=>d=.bool (lettS s 3)∧T=[]:=by
  refine wo_dcall Tryz.func98 rfl (by decide) rfl 5 rfl (fun a hal ha=>?_)
  have h0:a[0]? =some (.str s):=ha 0 (by simp)
  clear ha
  simp(maxSteps:=1000000)(disch:=omega)only[push_cast,decide_not,decide_eq_true_eq,decide_eq_false_iff_not,bne_eq_false_iff_eq,beq_eq_false_iff_ne,gt_iff_lt,ne_eq,not_true_eq_false,not_false_eq_true,hal,h0,q,Tryz.f98,↓WX,simprocAttr]
 exact callD_pure rfl rfl (eq_of_wo this) rfl
theorem rCountry_c {n:Nat} {s:ByteArray} (hn:s.size+5<n) (hz:s.size≤9223372036854775807) (st:Bool) (S:List Ob):callD E (dcall E n) st S 99 [.str s]=some (.bool (lettS s 2),S):=by
 obtain⟨m,rfl⟩:∃m,n=m+2:=⟨n-2,by omega⟩
 have q:∀st S,callD E (dcall E (m+1)) st S 149 [.str s,.int .i64 2]=some (.bool (lettS s 2),S):=fun st S=>callD_pure rfl rfl (eq_of_wo (letters_d (k:=2) (by omega) hz)) rfl
 have:WO (dcall E (m+2) 99 [.str s] []) fun d T=>d=.bool (lettS s 2)∧T=[]:=by
  refine wo_dcall Tryz.func99 rfl (by decide) rfl 5 rfl (fun a hal ha=>?_)
  have h0:a[0]? =some (.str s):=ha 0 (by simp)
  clear ha
  simp(maxSteps:=1000000)(disch:=omega)only[push_cast,decide_not,decide_eq_true_eq,decide_eq_false_iff_not,bne_eq_false_iff_eq,beq_eq_false_iff_ne,gt_iff_lt,ne_eq,not_true_eq_false,not_false_eq_true,hal,h0,q,Tryz.f99,↓WX,simprocAttr]
 exact callD_pure rfl rfl (eq_of_wo this) rfl
def carS (s:ByteArray):Bool:=codeS s 2 2 && !evr digB s s.size
theorem codeS_size {s:ByteArray} {k:Nat} (h:codeS s k k=true):s.size=k:=by
 unfold codeS at h
 simp only[Bool.and_eq_true,decide_eq_true_eq]at h
 omega
theorem cap_dig {b:UInt8} (h:cdB b=true):digB b= !capB b:=by
 unfold cdB at h
 unfold digB capB at*
 by_cases h1:48≤b.toNat <;> by_cases h2:b.toNat≤57 <;> by_cases h3:65≤b.toNat <;> by_cases h4:b.toNat≤90 <;> simp[h1,h2,h3,h4]at h ⊢ <;> omega
set_option maxHeartbeats 400000 in
set_option maxRecDepth 100000 in
theorem rCarrier_c {n:Nat} {s:ByteArray} (hn:s.size+6<n) (hz:s.size≤9223372036854775807) (st:Bool) (S:List Ob):callD E (dcall E n) st S 104 [.str s]=some (.bool (carS s),S):=by
 obtain⟨m,rfl⟩:∃m,n=m+2:=⟨n-2,by omega⟩
 have cc:∀st S,callD E (dcall E (m+1)) st S 105 [.str s,.int .i64 2,.int .i64 2]=some (.bool (codeS s 2 2),S):=fun st S=>callD_pure rfl rfl (eq_of_wo (ref_Code_d (by omega) hz)) rfl
 have cu:=upper_c (n:=m+1) (by omega)
 have:WO (dcall E (m+2) 104 [.str s] []) fun d T=>d=.bool (carS s)∧T=[]:=by
  refine wo_dcall Tryz.func104 rfl (by decide) rfl 15 rfl (fun a hal ha=>?_)
  have h0:a[0]? =some (.str s):=ha 0 (by simp)
  clear ha
  unfold carS
  cases hc:codeS s 2 2
  ·simp(maxSteps:=1000000)(disch:=omega)only[push_cast,decide_not,decide_eq_true_eq,decide_eq_false_iff_not,bne_eq_false_iff_eq,beq_eq_false_iff_ne,gt_iff_lt,ne_eq,not_true_eq_false,not_false_eq_true,hal,h0,cc,hc,Bool.false_and,Tryz.f104,↓WX,simprocAttr]
  ·have hz:=codeS_size (k:=2) hc
   obtain⟨b0,e0⟩:=byte_at' (s:=s) (i:=0) (by omega)
   obtain⟨b1,e1⟩:=byte_at' (s:=s) (i:=1) (by omega)
   have hev:evr cdB s s.size=true:=by
    unfold codeS at hc
    simp only[Bool.and_eq_true]at hc
    exact hc.2
   rw[hz]at hev ⊢
   simp only[evr,e0,e1,Option.getD_some,Bool.true_and,Bool.and_eq_true]at hev
   have hd:(!evr digB s 2)=(capB b0 || capB b1):=by
    simp only[evr,e0,e1,Option.getD_some,Bool.true_and,cap_dig hev.1,cap_dig hev.2]
    cases capB b0 <;> cases capB b1 <;> rfl
   rw[hd]
   cases hb:capB b0
   ·simp(maxSteps:=1000000)(disch:=omega)only[push_cast,decide_not,decide_eq_true_eq,decide_eq_false_iff_not,bne_eq_false_iff_eq,beq_eq_false_iff_ne,gt_iff_lt,ne_eq,not_true_eq_false,not_false_eq_true,hal,h0,cc,hc,cu,e0,e1,hb,Bool.true_and,Bool.false_or,Tryz.f104,↓WX,simprocAttr]
   ·simp(maxSteps:=1000000)(disch:=omega)only[push_cast,decide_not,decide_eq_true_eq,decide_eq_false_iff_not,bne_eq_false_iff_eq,beq_eq_false_iff_ne,gt_iff_lt,ne_eq,not_true_eq_false,not_false_eq_true,hal,h0,cc,hc,cu,e0,e1,hb,Bool.true_and,Bool.true_or,Tryz.f104,↓WX,simprocAttr]
 exact callD_pure rfl rfl (eq_of_wo this) rfl

/-! Decimals of numbers below 100. -/
def dec2 (n:Nat):ByteArray:=if n<10 then ⟨#[UInt8.ofNat (48+n)]⟩ else ⟨#[UInt8.ofNat (48+n / 10),UInt8.ofNat (48+n % 10)]⟩
theorem rdec2_all:(List.range 100).all (fun n=>sameS (strOf (dcall E 40 42 [.int .i64 n] [])) (some (dec2 n)))=true:=by kernel_rfl
theorem rdec2_c {n:Nat} (hn:40≤n) {i:Nat} (hi:i<100) (st:Bool) (S:List Ob):callD E (dcall E n) st S 42 [.int .i64 i]=some (.str (dec2 i),S):=by
 obtain⟨s,h1,h2⟩:=sameS_spec (List.all_eq_true.1 rdec2_all i (List.mem_range.2 hi))
 obtain⟨T,e⟩:=strOf_spec h1
 rw[Option.some.inj h2]
 exact callD_up hn (callD_pure rfl rfl e rfl)
theorem dec2_size (n:Nat):(dec2 n).size≤2:=by
 unfold dec2;split <;> simp[ByteArray.size]

/-! Lists of violations that are equal are found equal. -/
def FZ (d:D) (fs:List (Int×ByteArray)):Prop:=(d=.nils∧fs=[])∨∃x,d=.sl 2 (fs.map encF) x
theorem FV.fz {T:List Ob} {d:D} {fs:List (Int×ByteArray)} (h:FV T d fs):∃d',freeze T 40 d=some d'∧FZ d' fs:=by
 rcases h with ⟨rfl,rfl⟩ | ⟨x,rfl⟩ | ⟨k,rfl,hk⟩
 ·exact⟨_,rfl,.inl ⟨rfl,rfl⟩⟩
 ·exact⟨_,freeze_pure (encF_pure fs),.inr ⟨x,rfl⟩⟩
 ·have:=freeze_os (n:=38) (x:=false) hk (encF_pure fs)
  rw[List.length_map]at this
  exact⟨_,this,.inr ⟨_,rfl⟩⟩
theorem FZ.pure {d:D} {fs:List (Int×ByteArray)} (h:FZ d fs):d.pure=true:=by
 rcases h with ⟨rfl,-⟩ | ⟨x,rfl⟩
 ·rfl
 ·exact encF_pure fs
end Go.Proofs.YtaklebjoenophaaGreat.Dm
namespace Go.Proofs.YtaklebjoenophaaGreat.Dm
open Go Gw
set_option linter.unusedSimpArgs false

structure Cnn where
 a:ByteArray
 i:ByteArray
 o:ByteArray
 m:Int
def Cnn.enc (c:Cnn):List D:=[.str c.a,.str c.i,.str c.o,.int .i64 c.m]
def emp:ByteArray:=ByteArray.mk #[]
def eqS (x y:ByteArray):Bool:=x.toList == y.toList
def fldS (x y:ByteArray):Option Bool:=if eqS x emp=true then none else some (eqS x y)
def wtS (p q r:Option Bool):Int:=
 match p,q,r with
 |some false,_,_=> -1
 |_,some false,_=> -1
 |_,_,some false=> -1
 |p,q,r=>(if p.isSome then 12 else 0)+(if q.isSome then 10 else 0)+(if r.isSome then 9 else 0)
def rkS (p q r:Option Bool):Int:=
 match p,q,r with
 |some false,_,_=> -1
 |_,some false,_=> -1
 |_,_,some false=> -1
 |p,q,r=>(if p.isSome then 110 else 0)+(if q.isSome then 101 else 0)+(if r.isSome then 100 else 0)
def obs:List (Option Bool):=[none,some true,some false]
structure Sgm where
 c:ByteArray
 n:Int
 d:Int
 f:ByteArray
 t:ByteArray
 dep:Int
 arr:Int
def Sgm.enc (s:Sgm):List D:=[.str s.c,.int .i64 s.n,.int .i64 s.d,.str s.f,.str s.t,.int .i64 s.dep,.int .i64 s.arr]
def minCF (w:Cnn→Int) (m b:Int):List Cnn→Int
 | []=>m
 |c::l=>if b<w c then minCF w c.m (w c) l else minCF w m b l
def wtC (p q r:ByteArray) (c:Cnn):Int:=wtS (fldS c.a p) (fldS c.i q) (fldS c.o r)
def rkC (p q r:ByteArray) (c:Cnn):Int:=rkS (fldS c.a p) (fldS c.i q) (fldS c.o r)
def minL (p q r:ByteArray) (l:List Cnn):Int:=minCF (wtC p q r) 60 (-1) l
def fitB (l:List Cnn) (a b:Sgm):Bool:=
 (a.t.toList == b.f.toList) && decide (minL a.t a.c b.c l≤b.dep-a.arr) && decide (b.dep-a.arr≤1440)
def Near (s:Sgm):Prop:= -1099511627776≤s.dep∧s.dep≤1099511627776∧ -1099511627776≤s.arr∧s.arr≤1099511627776
end Go.Proofs.YtaklebjoenophaaGreat.Dm
