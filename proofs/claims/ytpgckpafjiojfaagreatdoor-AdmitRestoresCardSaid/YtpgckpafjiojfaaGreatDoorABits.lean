/- Plain facts on sets of the numbers 0..63 as bits of a natural number: least and greatest members, shifts, counting. No program in sight. Contracts of bits.inside, bits.Has, the reference's Has, math/bits.TrailingZeros64 and Len64: each function computes what the plain definition says, and leaves the world alone. Contracts of bits.Next, Prev. The program's Next by what it finds. Contracts of bits.Range, Inside, Of and the reference's. Contract of bits.Inside. Numbers in cells. math/bits.OnesCount64 counts the members of a set. Contracts of the reference's List and Count. -/
import Derived.Lib.TrailingZeros
import Derived.Laws.Bits64b
import Derived.Laws.MathBits
import Derived.Test.YtpgckpafjiojfaaGreatDoorProg
import Derived.Shelf.Strconv.Itoa0
import Derived.WalkKit
import Derived.Lib.Hide
import Derived.Deep.Draws
import Derived.Lib.BitFns
import Derived.Deep.QuietTactic
import Derived.BigQuiet
import Derived.Deep.LoopGhost
open Go.Lib (hid)
set_option maxRecDepth 16000
set_option maxHeartbeats 40000000
namespace Go.Proofs.YtpgckpafjiojfaaGreatDoor.BM
open Go
def has(s:Nat)(v:Int):Bool:=decide (0≤v)&&decide (v<64)&&s.testBit v.toNat
def nx(s:Nat)(v:Int):Option Nat:=(List.range 64).find? fun i=>decide (v≤(i:Int))&&s.testBit i
def pv(s:Nat)(v:Int):Option Nat:=((List.range 64).find? fun i=>decide (((63 - i:Nat):Int)≤v)&&s.testBit (63 - i)).map (63 - ·)
theorem has_nat(s i:Nat)(h:i<64):has s i=s.testBit i:=by
 have h1:(0:Int)≤i:=by omega
 have h2:(i:Int)<64:=by omega
 simp [has,h1,h2]
theorem has_out(s:Nat)(v:Int)(h:v<0∨64≤v):has s v=false:=by
 unfold has
 rcases h with h|h
 ·simp;omega
 ·simp;omega
theorem nx_some{s:Nat}{v:Int}{i:Nat}:nx s v=some i↔i<64∧v≤i∧s.testBit i=true∧∀j,j<i→v≤(j:Int)→s.testBit j=false:=by
 unfold nx
 rw [List.find?_range_eq_some]
 simp only [Bool.and_eq_true,decide_eq_true_eq,List.mem_range,Bool.not_eq_true',Bool.and_eq_false_iff,decide_eq_false_iff_not]
 constructor
 ·rintro ⟨⟨h1,h2⟩,h3,h4⟩
  exact ⟨h3,h1,h2,fun j hj hv=>(h4 j hj).resolve_left (by omega)⟩
 ·rintro ⟨h3,h1,h2,h4⟩
  exact ⟨⟨h1,h2⟩,h3,fun j hj=>by
   by_cases hv:v≤(j:Int)
   ·exact .inr (h4 j hj hv)
   ·exact .inl hv⟩
theorem nx_none{s:Nat}{v:Int}:nx s v=none↔∀i:Nat,i<64→v≤(i:Int)→s.testBit i=false:=by
 unfold nx
 rw [List.find?_eq_none]
 simp only [List.mem_range,Bool.and_eq_true,decide_eq_true_eq,not_and,Bool.not_eq_true]
theorem ctz_spec(x:Nat)(h0:x≠0)(h:x<2^64):Lib.ctz 64 x<64∧x.testBit (Lib.ctz 64 x)=true∧∀j,j<Lib.ctz 64 x→x.testBit j=false:=by
 obtain ⟨m,hm,hk⟩:=Lib.ctzFrom_spec 64 x (by omega) h
 have e:Lib.ctz 64 x=Lib.ctzFrom 64 x:=by simp [Lib.ctz,h0]
 rw [e]
 refine ⟨hk,?_,fun j hj=>?_⟩
 ·rw [hm]
  have hc:(2^Lib.ctzFrom 64 (2^Lib.ctzFrom 64 x*(2*m+1)))=2^Lib.ctzFrom 64 x:=by rw [←hm]
  rw [show Lib.ctzFrom 64 (2^Lib.ctzFrom 64 x*(2*m+1))=Lib.ctzFrom 64 x from by rw [←hm]]
  rw [Nat.mul_comm,Nat.testBit_mul_two_pow]
  simp [Nat.testBit_zero]
 ·generalize Lib.ctzFrom 64 x=c at *
  rw [hm,Nat.mul_comm,Nat.testBit_mul_two_pow]
  simp;omega
theorem nx_ctz(x:Nat)(h0:x≠0)(h:x<2^64):nx x 0=some (Lib.ctz 64 x):=by
 obtain ⟨h1,h2,h3⟩:=ctz_spec x h0 h
 exact nx_some.2 ⟨h1,by omega,h2,fun j hj _=>h3 j hj⟩
theorem cut_testBit(s k i:Nat):(s / 2^k*2^k).testBit i=(decide (k≤i)&&s.testBit i):=by
 rw [Nat.testBit_mul_two_pow,Nat.testBit_div_two_pow]
 by_cases h:k≤i
 ·simp [h,Nat.sub_add_cancel h]
 ·simp [h]
theorem cut_le(s k:Nat):s / 2^k*2^k≤s:=Nat.div_mul_le_self _ _
theorem nx_cut(s k:Nat)(v:Int)(hv:k=v.toNat):nx (s / 2^k*2^k) 0=nx s v:=by
 cases h:nx s v with
 | none =>
  rw [nx_none] at h ⊢
  intro i hi _
  rw [cut_testBit]
  by_cases hk:k≤i
  ·simp [h i hi (by omega)]
  ·simp [hk]
 | some i =>
  rw [nx_some] at h ⊢
  obtain ⟨h1,h2,h3,h4⟩:=h
  refine ⟨h1,by omega,?_,fun j hj _=>?_⟩
  ·rw [cut_testBit,h3];simp;omega
  ·rw [cut_testBit]
   by_cases hk:k≤j
   ·simp [h4 j hj (by omega)]
   ·simp [hk]
theorem nx_zero(v:Int):nx 0 v=none:=nx_none.2 fun i _ _=>by simp
theorem nx_big(s:Nat)(v:Int)(h:63<v):nx s v=none:=nx_none.2 fun i hi hv=>by omega
theorem and1(n:Nat)(h:n<18446744073709551616):bits .and .u64 (n:Int) 1=((n % 2:Nat):Int):=by
 have:=bits_and_u64_nat n 1 h (by omega)
 rw [Nat.and_one_is_mod] at this
 exact this
theorem testBit_eq(s k:Nat):s.testBit k=decide (s / 2^k % 2=1):=Nat.testBit_eq_decide_div_mod_eq
end Go.Proofs.YtpgckpafjiojfaaGreatDoor.BM
namespace Go.Proofs.YtpgckpafjiojfaaGreatDoor.BW
open Go.RowKit BM
set_option maxHeartbeats 400000 in
theorem inside_ok(v:Int)(w:World):Calls Tryz.prog 241 #[.int .i64 v] w fun e w'=>e=.returned (.bool (decide (0≤v)&&decide (v<64)))∧w=w':=by
 by_cases h1:0≤v
 ·by_cases h2:v<64
  ·go_enter Tryz.func241,Tryz.ntmps241
   go_wp2
   go_ret
   exact ⟨by simp [h1,h2],rfl⟩
  ·go_enter Tryz.func241,Tryz.ntmps241
   go_wp2
   go_ret
   exact ⟨by simp;omega,rfl⟩
 ·go_enter Tryz.func241,Tryz.ntmps241
  go_wp2
  go_ret
  exact ⟨by simp;omega,rfl⟩
theorem word_bit(s k:Nat)(hs:s<18446744073709551616):bits .and .u64 ((s:Int) / 2^k) 1=((s / 2^k % 2:Nat):Int):=by
 have:=and1 (s / 2^k) (Nat.lt_of_le_of_lt (Nat.div_le_self _ _) hs)
 rw [←this]
 rw [Int.natCast_ediv];simp
theorem ret_bool{a b:Bool}(h:a=b):Ending.returned (.bool a)=.returned (.bool b):=by rw [h]
theorem ret_i64{a b:Int}(h:a=b):Ending.returned (.int .i64 a)=.returned (.int .i64 b):=by rw [h]
theorem has_word(s:Nat)(v:Int)(hs:s<18446744073709551616)(h1:0≤v)(h2:v<64):(bits .and .u64 ((s:Int) / 2^v.toNat) 1==1)=has s v:=by
 rw [word_bit s v.toNat hs]
 simp only [has,h1,h2,testBit_eq,decide_true,Bool.true_and]
 rw [Bool.eq_iff_iff]
 simp only [beq_iff_eq,decide_eq_true_eq]
 omega
theorem has_ok(s:Nat)(v:Int)(hs:s<18446744073709551616)(w:World) :
 Calls Tryz.prog 233 #[.int .u64 s,.int .i64 v] w fun e w'=>e=.returned (.bool (has s v))∧w=w':=by
 by_cases h:0≤v∧v<64
 ·obtain ⟨h1,h2⟩:=h
  have e1:(decide (0≤v)&&decide (v<64))=true:=by simp [h1,h2]
  go_enter Tryz.func233,Tryz.ntmps233
  go_wp2_with (go_at_call 241;refine (inside_ok _ _).mono ?_;rintro e w' ⟨rfl,rfl⟩;rw [e1])
  go_ret
  exact ⟨ret_bool (has_word s v hs h1 h2),rfl⟩
 ·have e1:(decide (0≤v)&&decide (v<64))=false:=by simp;omega
  have e2:=has_out s v (by omega)
  go_enter Tryz.func233,Tryz.ntmps233
  go_wp2_with (go_at_call 241;refine (inside_ok _ _).mono ?_;rintro e w' ⟨rfl,rfl⟩;rw [e1])
  go_ret
  exact ⟨ret_bool e2.symm,rfl⟩
def Tab(w:World):Prop:=∀j,j<64→w.cell? ⟨1,j,none⟩=some (.int .u8 ((Lib.deBruijn64tab.getD j 0:Nat):Int))
theorem tz_core(x k idx:Nat)(w:World)(hx0:((x:Int)==0)=false)
 (key:IntKind.u64.wrap (bits BinOp.and IntKind.u64 (x:Int) (IntKind.u64.wrap (-(x:Int)))*285870213051353865) / 288230376151711744=(idx:Int))
 (hi:idx<64) (hk:k<64) (hcell:w.cell? ⟨1,idx,none⟩=some (.int .u8 k)) :
 Calls Tryz.prog 239 #[.int .u64 x] w fun e w'=>e=.returned (.int .i64 k)∧w=w':=by
 go_enter Tryz.func239,Tryz.ntmps239
 go_wp2_with (simp only [key])
 go_ret
 exact ⟨rfl,rfl⟩
theorem tz_key(x a:Nat)(hx:x<18446744073709551616)(hx0:x≠0)(hlow:x &&&(18446744073709551616 - x)=a) :
 IntKind.u64.wrap (bits BinOp.and IntKind.u64 (x:Int) (IntKind.u64.wrap (-(x:Int)))*285870213051353865) / 288230376151711744=((a*285870213051353865 % 18446744073709551616 / 288230376151711744:Nat):Int):=by
 have e1:IntKind.u64.wrap (-(x:Int))=((18446744073709551616 - x:Nat):Int):=by rw [IntKind.wrap_u64];omega
 rw [e1,bits_and_u64_nat x _ hx (by omega),hlow,IntKind.wrap_u64]
 omega
theorem tz_ok(x:Nat)(hx:x<18446744073709551616)(hx0:x≠0)(w:World)(hT:Tab w) :
 Calls Tryz.prog 239 #[.int .u64 x] w fun e w'=>e=.returned (.int .i64 (Lib.ctz 64 x))∧w=w':=by
 obtain ⟨hlow,hk⟩:=Lib.lowest_bit 64 x hx0 hx
 obtain ⟨hi,htab⟩:=Lib.deBruijn64_at _ hk
 have hcell:=hT _ hi
 rw [htab] at hcell
 exact tz_core x _ _ w (by simp;omega) (tz_key x _ hx hx0 hlow) hi hk hcell
section
open Go.Shelf
end
theorem ret_ib{a b:Int}{c d:Bool}(h:a=b)(h':c=d):Ending.returned (.tuple #[.int .i64 a,.bool c])=.returned (.tuple #[.int .i64 b,.bool d]):=by rw [h,h']
def num(r:Option Nat):Int:=(r.getD 0:Nat)
theorem max0(v:Int):(max v 0).toNat=v.toNat:=by omega
theorem cut_word(s:Nat)(k:Nat)(hs:s<18446744073709551616):IntKind.u64.wrap ((s:Int) / 2^k*2^k)=((s / 2^k*2^k:Nat):Int):=by
 have h:=cut_le s k
 have e:((s:Int) / 2^k*2^k)=((s / 2^k*2^k:Nat):Int):=by
  rw [Int.natCast_mul,Int.natCast_ediv];simp
 rw [e,IntKind.wrap_u64]
 omega
theorem next_ok(s:Nat)(v:Int)(hs:s<18446744073709551616)(w:World)(hT:Tab w) :
 Calls Tryz.prog 228 #[.int .u64 s,.int .i64 v] w fun e w'=>e=.returned (.tuple #[.int .i64 (num (nx s v)),.bool (nx s v).isSome])∧w=w':=by
 by_cases h1:63<v
 ·have e:=hid (nx_big s v h1)
  go_enter Tryz.func228,Tryz.ntmps228
  go_wp2
  go_ret2
  exact ⟨ret_ib (by rw [e.out];rfl) (by rw [e.out];rfl),rfl⟩
 ·have E:=hid (nx_cut s v.toNat v rfl)
  have CW:=cut_word s v.toNat hs
  rw [←max0] at CW
  have hl:=cut_le s v.toNat
  rw [max0] at CW
  generalize hx:s / 2^v.toNat*2^v.toNat=x at *
  clear hx
  rw [←max0] at CW
  have hT':=hid hT
  clear hT
  by_cases h0:x=0
  ·subst h0
   have EE:=hid (E.out.symm.trans (nx_zero 0))
   clear E
   have hz:(((0:Nat):Int)==0)=true:=rfl
   go_enter Tryz.func228,Tryz.ntmps228
   go_wp2
   go_ret2
   exact ⟨ret_ib (by rw [EE.out];rfl) (by rw [EE.out];rfl),rfl⟩
  ·have EE:=hid (E.out.symm.trans (nx_ctz x h0 (by omega)))
   clear E
   have hz:((x:Int)==0)=false:=by simp;omega
   go_enter Tryz.func228,Tryz.ntmps228
   go_wp2_with (go_at_call 239;refine (tz_ok x (by omega) h0 _ hT'.out).mono ?_;rintro e w' ⟨rfl,rfl⟩)
   go_ret2
   exact ⟨ret_ib (by rw [EE.out];rfl) (by rw [EE.out];rfl),rfl⟩
def mkN(p:Nat→Bool):Nat→Nat
 | 0=>0
 | n+1=>mkN p n |||if p n then 2^n else 0
theorem mkN_bit(p:Nat→Bool):∀n i,(mkN p n).testBit i=(decide (i<n)&&p i)
 | 0,i=>by simp [mkN]
 | n+1,i=>by
  simp only [mkN,Nat.testBit_or,mkN_bit p n i]
  by_cases e:i=n
  ·subst e
   cases h:p i<;>simp
  ·have e':n≠i:=fun h=>e h.symm
   have:(if p n then 2^n else 0:Nat).testBit i=false:=by
    split
    ·simp [e']
    ·simp
   rw [this,Bool.or_false]
   by_cases h:i<n
   ·have:i<n+1:=by omega
    simp [h,this]
   ·have:¬i<n+1:=by omega
    simp [h,this]
theorem mkN_lt(p:Nat→Bool)(n:Nat):mkN p n<2^n:=Nat.lt_pow_two_of_testBit _ fun i hi=>by rw [mkN_bit];simp;omega
def mk(p:Nat→Bool):Nat:=mkN p 64
theorem mk_bit(p:Nat→Bool)(i:Nat):(mk p).testBit i=(decide (i<64)&&p i):=mkN_bit p 64 i
theorem mk_lt(p:Nat→Bool):mk p<18446744073709551616:=mkN_lt p 64
theorem mk_none:mk (fun _=>false)=0:=by
 apply Nat.eq_of_testBit_eq;intro i;rw [mk_bit];simp
theorem mk_ext{p q:Nat→Bool}(h:∀i,i<64→p i=q i):mk p=mk q:=by
 apply Nat.eq_of_testBit_eq;intro i;rw [mk_bit,mk_bit]
 by_cases hi:i<64
 ·simp [h i hi]
 ·simp [hi]
theorem mk_or{p:Nat→Bool}{n:Nat}(hn:n<64):mk p |||2^n=mk (fun i=>p i||decide (i=n)):=by
 apply Nat.eq_of_testBit_eq;intro i;rw [Nat.testBit_or,mk_bit,mk_bit,Nat.testBit_two_pow]
 by_cases e:n=i
 ·subst e;simp [hn]
 ·have e':¬i=n:=fun h=>e h.symm
  simp [e,e']
theorem or_word(a n:Nat)(ha:a<18446744073709551616)(hn:n<64):bits .or .u64 (a:Int) (IntKind.u64.wrap (2^n))=((a |||2^n:Nat):Int):=by
 have hp:(2:Nat)^n<18446744073709551616:=Nat.lt_of_lt_of_le (Nat.pow_lt_pow_right (by decide) hn) (by decide)
 have e:((2:Int)^n)=((2^n:Nat):Int):=by simp
 rw [e]
 generalize (2:Nat)^n=p at *
 rw [show IntKind.u64.wrap (p:Int)=p from by rw [IntKind.wrap_u64];omega]
 exact bits_or_u64_nat a p ha hp
def rangeS(lo hi step:Nat):Nat:=mk fun i=>decide (lo≤i)&&decide (i≤hi)&&decide ((i - lo) % step=0)
theorem same_rest{lo i v st:Nat}(hl:lo≤v)(h1:(i - lo) % st=0)(h2:(v - lo) % st=0)(h3:v≤i)(h4:i<v+st):i=v:=by
 have d1:=Nat.dvd_of_mod_eq_zero h1
 have d2:=Nat.dvd_of_mod_eq_zero h2
 have d3:=Nat.dvd_sub d1 d2
 have e:i - lo - (v - lo)=i - v:=by omega
 rw [e] at d3
 have:=Nat.eq_zero_of_dvd_of_lt d3 (by omega)
 omega
theorem min_rest{a step:Nat}(ha:a<64)(_hs:1≤step):decide (a % step=0)=decide (a % (min step 64)=0):=by
 by_cases h:step≤64
 ·rw [Nat.min_eq_left h]
 ·have e:min step 64=64:=by omega
  rw [e,Nat.mod_eq_of_lt (by omega:a<step),Nat.mod_eq_of_lt ha]
theorem range_zero(lo st:Nat):mk (fun i=>decide (lo≤i)&&decide (i<lo)&&decide ((i - lo) % st=0))=0:=by
 rw [←mk_none];apply mk_ext;intro i _;simp;omega
theorem range_next{lo v st:Nat}(hl:lo≤v)(hv:v<64)(hm:(v - lo) % st=0)(hst:1≤st) :
 mk (fun i=>decide (lo≤i)&&decide (i<v)&&decide ((i - lo) % st=0)) |||2^v=mk (fun i=>decide (lo≤i)&&decide (i<v+st)&&decide ((i - lo) % st=0)):=by
 rw [mk_or hv]
 apply mk_ext
 intro i _
 rw [Bool.eq_iff_iff]
 simp only [Bool.or_eq_true,Bool.and_eq_true,decide_eq_true_eq]
 constructor
 ·rintro (⟨⟨h1,h2⟩,h3⟩|rfl)
  ·exact ⟨⟨h1,by omega⟩,h3⟩
  ·exact ⟨⟨hl,by omega⟩,hm⟩
 ·rintro ⟨⟨h1,h2⟩,h3⟩
  by_cases h:i<v
  ·exact .inl ⟨⟨h1,h⟩,h3⟩
  ·exact .inr (same_rest hl h3 hm (by omega) h2)
theorem range_end{lo hi v step:Nat}(hv:hi<v)(hst:1≤step)(hgap:∀i,lo≤i→i<v→(i - lo) % min step 64=0→i≤hi) :
 mk (fun i=>decide (lo≤i)&&decide (i<v)&&decide ((i - lo) % min step 64=0))=rangeS lo hi step:=by
 apply mk_ext
 intro i hi64
 rw [min_rest (by omega) hst,Bool.eq_iff_iff]
 simp only [Bool.and_eq_true,decide_eq_true_eq]
 constructor
 ·rintro ⟨⟨h1,h2⟩,h3⟩;exact ⟨⟨h1,hgap i h1 h2 h3⟩,h3⟩
 ·rintro ⟨⟨h1,h2⟩,h3⟩;exact ⟨⟨h1,by omega⟩,h3⟩
def rangeR(lo hi step:Int):Nat × Int :=
 if lo<0∨63<lo∨hi<0∨63<hi then (0,3) else if hi<lo∨step<1 then (0,2) else (rangeS lo.toNat hi.toNat step.toNat,0)
theorem ret_ue{a b:Int}{c d:Int}(h:a=b)(h':c=d):Ending.returned (.tuple #[.int .u64 a,.int .i64 c])=.returned (.tuple #[.int .u64 b,.int .i64 d]):=by rw [h,h']
theorem inside_yes{v:Int}(h:0≤v∧v≤63)(w:World):Calls Tryz.prog 241 #[.int .i64 v] w fun e w'=>e=.returned (.bool true)∧w=w':=by
 have:=inside_ok v w
 rw [show (decide (0≤v)&&decide (v<64))=true from by simp;omega] at this
 exact this
theorem inside_no{v:Int}(h:¬(0≤v∧v≤63))(w:World):Calls Tryz.prog 241 #[.int .i64 v] w fun e w'=>e=.returned (.bool false)∧w=w':=by
 have:=inside_ok v w
 rw [show (decide (0≤v)&&decide (v<64))=false from by simp;omega] at this
 exact this
theorem range_ok(lo hi step:Int)(w:World) :
 Calls Tryz.prog 235 #[.int .i64 lo,.int .i64 hi,.int .i64 step] w fun e w'=>e=.returned (.tuple #[.int .u64 ((rangeR lo hi step).1:Nat),.int .i64 (rangeR lo hi step).2])∧w=w':=by
 by_cases h1:0≤lo∧lo≤63
 ·have c1:=inside_yes h1
  by_cases h2:0≤hi∧hi≤63
  ·have c2:=inside_yes h2
   obtain ⟨a,rfl⟩:=Int.eq_ofNat_of_zero_le h1.1
   obtain ⟨b,rfl⟩:=Int.eq_ofNat_of_zero_le h2.1
   have ha:=h1.2
   have hb:=h2.2
   clear h1 h2
   have C1:=hid c1
   have C2:=hid c2
   clear c1 c2
   by_cases h3:b<a
   ·have E:Hid (rangeR a b step=(0,2)):=hid (by unfold rangeR;rw [if_neg (by omega),if_pos (by omega)])
    go_enter Tryz.func235,Tryz.ntmps235
    go_wp2_with fail
    refine (C1.out _).mono ?_
    rintro e w' ⟨rfl,rfl⟩
    go_wp2_with fail
    refine (C2.out _).mono ?_
    rintro e w' ⟨rfl,rfl⟩
    go_wp2_with fail
    go_ret2
    exact ⟨ret_ue (by rw [E.out];rfl) (by rw [E.out]),rfl⟩
   ·by_cases h4:step<1
    ·have E:Hid (rangeR a b step=(0,2)):=hid (by unfold rangeR;rw [if_neg (by omega),if_pos (by omega)])
     have d1:decide ((b:Int)<(a:Int))=false:=decide_eq_false (by omega)
     go_enter Tryz.func235,Tryz.ntmps235
     go_wp2_with fail
     refine (C1.out _).mono ?_
     rintro e w' ⟨rfl,rfl⟩
     go_wp2_with fail
     refine (C2.out _).mono ?_
     rintro e w' ⟨rfl,rfl⟩
     go_wp2_with fail
     go_ret2
     exact ⟨ret_ue (by rw [E.out];rfl) (by rw [E.out]),rfl⟩
    ·obtain ⟨n,rfl⟩:=Int.eq_ofNat_of_zero_le (show 0≤step by omega)
     have E:Hid (rangeR a b n=(rangeS a b n,0)):=hid (by unfold rangeR;rw [if_neg (by omega),if_neg (by omega)];simp)
     have d1:decide ((b:Int)<(a:Int))=false:=decide_eq_false (by omega)
     have d2:decide ((n:Int)<1)=false:=decide_eq_false (by omega)
     obtain ⟨m,hm⟩:∃m,m=min n 64:=⟨_,rfl⟩
     have hmin:min (n:Int) 64=(m:Int):=by omega
     have m1:1≤m:=by omega
     have m2:m≤64:=by omega
     have HM:=hid hm
     clear hm
     go_enter Tryz.func235,Tryz.ntmps235
     go_wp2_with fail
     refine (C1.out _).mono ?_
     rintro e w' ⟨rfl,rfl⟩
     go_wp2_with fail
     refine (C2.out _).mono ?_
     rintro e w' ⟨rfl,rfl⟩
     go_wp2_with fail
     go_loop [8,9] (fun o i=>∃v:Nat,a≤v∧v≤b+m∧(v - a) % m=0∧(∀i,a≤i→i<v→(i - a) % m=0→i≤b)∧i=.int .i64 v∧o=.int .u64 ((mk fun i=>decide (a≤i)&&decide (i<v)&&decide ((i - a) % m=0):Nat):Int)) (fun _ i=>b+m+1 - (intOf i).toNat)
     case atStart=>exact ⟨a,by omega,by omega,by simp,fun i hi hi2=>by omega,rfl,by rw [range_zero];rfl⟩
     case round =>
      obtain ⟨v,v1,v2,v3,v4,rfl,rfl⟩:=hrel
      have V3:=hid v3
      have V4:=hid v4
      clear v3 v4
      by_cases hlt:v≤b
      ·have HN:=hid (range_next v1 (show v<64 by omega) V3.out m1)
       have hlo:=mk_lt fun i=>decide (a≤i)&&decide (i<v)&&decide ((i - a) % m=0)
       generalize hS:mk (fun i=>decide (a≤i)&&decide (i<v)&&decide ((i - a) % m=0))=S at *
       have HO:=hid (or_word S v hlo (by omega))
       clear hS
       go_wp2
       go_round
       case rel=>exact ⟨v+m,by omega,by omega,by
        have d1:=Nat.dvd_of_mod_eq_zero V3.out
        rw [show v+m - a=v - a+m from by omega]
        exact Nat.mod_eq_zero_of_dvd (Nat.dvd_add d1 (Nat.dvd_refl m)),fun i h1 h2 h3=>by
        by_cases hi:i<v
        ·exact V4.out i h1 hi h3
        ·have:=same_rest v1 h3 V3.out (by omega) h2
         omega,by go_num,by rw [HO.out,HN.out]⟩
       case measure=>simp [intOf];omega
      ·have FIN:=hid (range_end (lo:=a) (hi:=b) (v:=v) (step:=n) (by omega) (by omega) (by rw [←HM.out];exact V4.out))
       rw [←HM.out] at FIN
       go_wp2
       go_ret2
       exact ⟨ret_ue (by rw [E.out,FIN.out]) (by rw [E.out]),rfl⟩
  ·have C1:=hid c1
   have C2:=hid (inside_no h2)
   have E:Hid (rangeR lo hi step=(0,3)):=hid (by unfold rangeR;rw [if_pos (by omega)])
   clear c1
   go_enter Tryz.func235,Tryz.ntmps235
   go_wp2_with fail
   refine (C1.out _).mono ?_
   rintro e w' ⟨rfl,rfl⟩
   go_wp2_with fail
   refine (C2.out _).mono ?_
   rintro e w' ⟨rfl,rfl⟩
   go_wp2_with fail
   go_ret2
   exact ⟨ret_ue (by rw [E.out];rfl) (by rw [E.out]),rfl⟩
 ·have C1:=hid (inside_no h1)
  have E:Hid (rangeR lo hi step=(0,3)):=hid (by unfold rangeR;rw [if_pos (by omega)])
  go_enter Tryz.func235,Tryz.ntmps235
  go_wp2_with fail
  refine (C1.out _).mono ?_
  rintro e w' ⟨rfl,rfl⟩
  go_wp2_with fail
  go_ret2
  exact ⟨ret_ue (by rw [E.out];rfl) (by rw [E.out]),rfl⟩
def sub(a b:Nat):Bool:=a &&&b==a
theorem andNot_word(a b:Nat)(ha:a<18446744073709551616)(hb:b<18446744073709551616):bits .andNot .u64 (a:Int) (b:Int)=((a ^^^(a &&&b):Nat):Int):=by
 have h1:(BitVec.ofInt 64 (a:Int)).toNat=a:=by
  rw [BitVec.ofInt_natCast,BitVec.toNat_ofNat];exact Nat.mod_eq_of_lt (by omega)
 have h2:(BitVec.ofInt 64 (b:Int)).toNat=b:=by
  rw [BitVec.ofInt_natCast,BitVec.toNat_ofNat];exact Nat.mod_eq_of_lt (by omega)
 show IntKind.u64.wrap ((BitVec.ofInt 64 (a:Int) &&&~~~ BitVec.ofInt 64 (b:Int)).toNat:Int)=_
 have hx:a ^^^(a &&&b)<2^64:=Nat.xor_lt_two_pow (by omega) (Nat.and_lt_two_pow _ (by omega))
 have e:(BitVec.ofInt 64 (a:Int) &&&~~~ BitVec.ofInt 64 (b:Int)).toNat=a ^^^(a &&&b):=by
  apply Nat.eq_of_testBit_eq
  intro i
  rw [←BitVec.getLsbD,BitVec.getLsbD_and,BitVec.getLsbD_not,Nat.testBit_xor,Nat.testBit_and]
  simp only [BitVec.getLsbD,h1,h2]
  by_cases hi:i<64
  ·cases a.testBit i<;>cases b.testBit i<;>simp [hi]
  ·rw [Nat.testBit_lt_two_pow (Nat.lt_of_lt_of_le (show a<2^64 from ha) (Nat.pow_le_pow_right (by decide) (by omega)))];simp
 rw [e,IntKind.wrap_u64]
 omega
theorem sub_andNot(a b:Nat):sub a b=(((a ^^^(a &&&b):Nat):Int)==0):=by
 unfold sub
 rw [Bool.eq_iff_iff,beq_iff_eq,beq_iff_eq]
 constructor
 ·intro h;rw [h];simp
 ·intro h
  have h0:a ^^^(a &&&b)=0:=by omega
  apply Nat.eq_of_testBit_eq
  intro i
  have h1:(a ^^^(a &&&b)).testBit i=false:=by rw [h0];simp
  rw [Nat.testBit_xor] at h1
  cases ha:a.testBit i<;>cases hb:(a &&&b).testBit i<;>simp [ha,hb] at h1 ⊢
theorem sub_ok(a b:Nat)(ha:a<18446744073709551616)(hb:b<18446744073709551616)(w:World) :
 Calls Tryz.prog 212 #[.int .u64 a,.int .u64 b] w fun e w'=>e=.returned (.bool (sub a b))∧w=w':=by
 go_enter Tryz.func212,Tryz.ntmps212
 go_wp2
 go_ret
 exact ⟨ret_bool (by rw [sub_andNot,andNot_word a b ha hb]),rfl⟩
def IntsAt(w:World)(a:Option Addr)(xs:List Int):Prop:=∀k (h:k<xs.length),∃b off,a=some ⟨b,off,none⟩∧w.cell? ⟨b,off+k,none⟩=some (.int .i64 xs[k])
theorem and_byte(a b c d:Nat)(ha:a<256)(hc:c<256):(a+256*b) &&&(c+256*d)=(a &&&c)+256*(b &&&d):=by
 have h1:=Nat.and_mod_two_pow (a:=a+256*b) (b:=c+256*d) (n:=8)
 have h2:=Nat.and_div_two_pow (a:=a+256*b) (b:=c+256*d) (n:=8)
 have e1:(a+256*b) % 2^8=a:=by omega
 have e2:(c+256*d) % 2^8=c:=by omega
 have e3:(a+256*b) / 2^8=b:=by omega
 have e4:(c+256*d) / 2^8=d:=by omega
 rw [e1,e2] at h1
 rw [e3,e4] at h2
 omega
def p1(a:Nat):Nat:=(a / 2 &&&85)+(a &&&85)
def p2(a:Nat):Nat:=(a / 4 &&&51)+(a &&&51)
def p3(a:Nat):Nat:=(a / 16+a) &&&15
def PM(c:Nat):Nat→Nat
 | 0=>0
 | n+1=>c+256*PM c n
theorem M_succ(c n:Nat):PM c (n+1)=c+256*PM c n:=rfl
def S1(n x:Nat):Nat:=(x / 2 &&&PM 85 n)+(x &&&PM 85 n)
def S2(n x:Nat):Nat:=(x / 4 &&&PM 51 n)+(x &&&PM 51 n)
def S3(n x:Nat):Nat:=(x / 16+x) &&&PM 15 n
theorem half_mask:∀a:Fin 256,∀t:Fin 2,(a.val / 2+128*t.val) &&&85=(a.val / 2 &&&85):=by decide +kernel
theorem quarter_mask:∀a:Fin 256,∀t:Fin 4,(a.val / 4+64*t.val) &&&51=(a.val / 4 &&&51):=by decide +kernel
theorem p1_facts:∀a:Fin 256,p1 a.val<256:=by decide +kernel
theorem p2_facts:∀a:Fin 256,p2 (p1 a.val)<256∧p2 (p1 a.val) % 16≤4∧p2 (p1 a.val) / 16≤4∧p3 (p2 (p1 a.val))=Lib.popAux 8 a.val∧Lib.popAux 8 a.val≤8:=by decide +kernel
theorem low_mask:∀a:Fin 256,∀t:Fin 5,a.val % 16≤4→a.val / 16≤4→a.val / 16+a.val+16*t.val<256∧(a.val / 16+a.val+16*t.val) &&&15=p3 a.val:=by decide +kernel
theorem S1_step(n a b:Nat)(ha:a<256):S1 (n+1) (a+256*b)=p1 a+256*S1 n b:=by
 have e:(a+256*b) / 2=(a / 2+128*(b % 2))+256*(b / 2):=by omega
 have h:=half_mask ⟨a,ha⟩ ⟨b % 2,by omega⟩
 simp only at h
 unfold S1 p1;rw [M_succ]
 rw [e,and_byte _ _ _ _ (by omega) (by omega),and_byte _ _ _ _ ha (by omega),h]
 omega
theorem S2_step(n a b:Nat)(ha:a<256):S2 (n+1) (a+256*b)=p2 a+256*S2 n b:=by
 have e:(a+256*b) / 4=(a / 4+64*(b % 4))+256*(b / 4):=by omega
 have h:=quarter_mask ⟨a,ha⟩ ⟨b % 4,by omega⟩
 simp only at h
 unfold S2 p2;rw [M_succ]
 rw [e,and_byte _ _ _ _ (by omega) (by omega),and_byte _ _ _ _ ha (by omega),h]
 omega
theorem S3_step(n a b:Nat)(ha:a<256)(h1:a % 16≤4)(h2:a / 16≤4)(hb:b % 16≤4):S3 (n+1) (a+256*b)=p3 a+256*S3 n b:=by
 have h:=low_mask ⟨a,ha⟩ ⟨b % 16,by omega⟩ h1 h2
 simp only at h
 have e:(a+256*b) / 16+(a+256*b)=(a / 16+a+16*(b % 16))+256*(b / 16+b):=by omega
 unfold S3;rw [M_succ]
 rw [e,and_byte _ _ _ _ h.1 (by omega),h.2]
def D:Nat→Nat→Nat
 | 0,_=>0
 | n+1,x=>Lib.popAux 8 (x % 256)+256*D n (x / 256)
theorem S123:∀(n x:Nat),x<256^n→S3 n (S2 n (S1 n x))=D n x∧S2 n (S1 n x) % 16≤4
 | 0,x,h=>by simp at h;subst h;simp [S1,S2,S3,PM,D]
 | n+1,x,h=>by
  have hx:x / 256<256^n:=by rw [Nat.pow_succ] at h;omega
  obtain ⟨ih,ihb⟩:=S123 n (x / 256) hx
  have e:x=x % 256+256*(x / 256):=by omega
  have hm:x % 256<256:=by omega
  obtain ⟨f1,f2,f3,f4,f5⟩:=p2_facts ⟨x % 256,hm⟩
  simp only at f1 f2 f3 f4 f5
  have g1:=p1_facts ⟨x % 256,hm⟩
  simp only at g1
  have hS:S2 (n+1) (S1 (n+1) x)=p2 (p1 (x % 256))+256*S2 n (S1 n (x / 256)):=by
   conv=>lhs;rw [e]
   rw [S1_step _ _ _ hm,S2_step _ _ _ g1]
  refine ⟨?_,by rw [hS];omega⟩
  rw [hS,S3_step _ _ _ f1 f2 f3 ihb,ih,f4]
  rfl
theorem popAux_add:∀(m n x:Nat),Lib.popAux (m+n) x=Lib.popAux m (x % 2^m)+Lib.popAux n (x / 2^m)
 | 0,n,x=>by simp [Lib.popAux]
 | m+1,n,x=>by
  have e:m+1+n=(m+n)+1:=by omega
  rw [e]
  show x % 2+Lib.popAux (m+n) (x / 2)=(x % 2^(m+1)) % 2+Lib.popAux m (x % 2^(m+1) / 2)+_
  rw [popAux_add m n (x / 2)]
  have e1:x % 2^(m+1) % 2=x % 2:=by rw [Nat.pow_succ,Nat.mul_comm];exact Nat.mod_mul_right_mod _ _ _
  have e2:x % 2^(m+1) / 2=x / 2 % 2^m:=by rw [Nat.pow_succ,Nat.mul_comm];exact Nat.mod_mul_right_div_self _ _ _
  have e3:x / 2 / 2^m=x / 2^(m+1):=by rw [Nat.div_div_eq_div_mul,Nat.pow_succ,Nat.mul_comm]
  rw [e1,e2,e3]
  omega
theorem sum8(c0 c1 c2 c3 c4 c5 c6 c7:Nat)(h0:c0≤8)(h1:c1≤8)(h2:c2≤8)(h3:c3≤8)(h4:c4≤8)(h5:c5≤8)(h6:c6≤8)(h7:c7≤8)(y z u v:Nat)
 (hy:y=c0+256*(c1+256*(c2+256*(c3+256*(c4+256*(c5+256*(c6+256*c7)))))))
 (hz:z=y+y / 256) (hu:u=z+z / 65536) (hv:v=u+u / 4294967296):v<9223372036854775808∧v % 128=c0+c1+c2+c3+c4+c5+c6+c7:=by
 have e1:y / 256=c1+256*(c2+256*(c3+256*(c4+256*(c5+256*(c6+256*c7))))):=by omega
 have e2:z=(c0+c1)+256*((c1+c2)+256*((c2+c3)+256*((c3+c4)+256*((c4+c5)+256*((c5+c6)+256*((c6+c7)+256*c7)))))):=by omega
 have e3:z / 65536=(c2+c3)+256*((c3+c4)+256*((c4+c5)+256*((c5+c6)+256*((c6+c7)+256*c7)))):=by clear e1 hy hz hu hv;omega
 have e4:u=(c0+c1+c2+c3)+256*((c1+c2+c3+c4)+256*((c2+c3+c4+c5)+256*((c3+c4+c5+c6)+256*((c4+c5+c6+c7)+256*((c5+c6+c7)+256*((c6+c7)+256*c7)))))):=by clear e1 hy hz hv;omega
 have e5:u / 4294967296=(c4+c5+c6+c7)+256*((c5+c6+c7)+256*((c6+c7)+256*c7)):=by clear e1 e2 e3 hy hz hu hv;omega
 clear e1 e2 e3 hy hz hu
 constructor<;>omega
theorem popAux_le:∀(m x:Nat),Lib.popAux m x≤m
 | 0,_=>by simp [Lib.popAux]
 | m+1,x=>by have:=popAux_le m (x / 2);simp only [Lib.popAux];omega
theorem D_sum(x y z u v:Nat)(hx:x<2^64)(hy:y=D 8 x)(hz:z=y+y / 256)(hu:u=z+z / 65536)(hv:v=u+u / 4294967296) :
 v<9223372036854775808∧v % 128=Lib.popAux 64 x:=by
 have hp:Lib.popAux 64 x=Lib.popAux 8 (x % 256)+(Lib.popAux 8 (x / 256 % 256)+(Lib.popAux 8 (x / 256 / 256 % 256)+(Lib.popAux 8 (x / 256 / 256 / 256 % 256)+(Lib.popAux 8 (x / 256 / 256 / 256 / 256 % 256)+(Lib.popAux 8 (x / 256 / 256 / 256 / 256 / 256 % 256)+(Lib.popAux 8 (x / 256 / 256 / 256 / 256 / 256 / 256 % 256)+Lib.popAux 8 (x / 256 / 256 / 256 / 256 / 256 / 256 / 256 % 256))))))):=by
  rw [show 64=8+(8+(8+(8+(8+(8+(8+8)))))) from rfl]
  rw [popAux_add,popAux_add,popAux_add,popAux_add,popAux_add,popAux_add,popAux_add]
  have e:∀n:Nat,n % 2^8=n % 256:=fun _=>rfl
  have e':∀n:Nat,n / 2^8=n / 256:=fun _=>rfl
  simp only [e,e']
  have hl:x / 256 / 256 / 256 / 256 / 256 / 256 / 256<256:=by omega
  rw [Nat.mod_eq_of_lt hl]
 have:=sum8 (Lib.popAux 8 (x % 256)) (Lib.popAux 8 (x / 256 % 256)) (Lib.popAux 8 (x / 256 / 256 % 256)) (Lib.popAux 8 (x / 256 / 256 / 256 % 256)) (Lib.popAux 8 (x / 256 / 256 / 256 / 256 % 256)) (Lib.popAux 8 (x / 256 / 256 / 256 / 256 / 256 % 256)) (Lib.popAux 8 (x / 256 / 256 / 256 / 256 / 256 / 256 % 256)) (Lib.popAux 8 (x / 256 / 256 / 256 / 256 / 256 / 256 / 256 % 256))
  (popAux_le _ _) (popAux_le _ _) (popAux_le _ _) (popAux_le _ _) (popAux_le _ _) (popAux_le _ _) (popAux_le _ _) (popAux_le _ _) y z u v (by rw [hy];simp only [D];omega) hz hu hv
 omega
theorem M85:PM 85 8=6148914691236517205:=by decide +kernel
theorem M51:PM 51 8=3689348814741910323:=by decide +kernel
theorem M15:PM 15 8=1085102592571150095:=by decide +kernel
theorem le_mask(a m:Nat):a &&&m≤m:=Nat.and_le_right
theorem andN(a m:Nat)(ha:a<18446744073709551616)(hm:m<18446744073709551616):bits .and .u64 (a:Int) (m:Int)=((a &&&m:Nat):Int):=bits_and_u64_nat a m ha hm
theorem wrapN(a:Nat)(ha:a<18446744073709551616):IntKind.u64.wrap (a:Int)=(a:Int):=by rw [IntKind.wrap_u64];omega
theorem and127(a:Nat)(ha:a<9223372036854775808):bits .and .i64 (wrap64 (a:Int)) 127=((a % 128:Nat):Int):=by
 have e:wrap64 (a:Int)=a:=by unfold wrap64;omega
 rw [e]
 show IntKind.i64.wrap ((BitVec.ofInt 64 (a:Int) &&&BitVec.ofInt 64 127).toNat:Int)=_
 have h1:(BitVec.ofInt 64 (a:Int)).toNat=a:=by
  rw [BitVec.ofInt_natCast,BitVec.toNat_ofNat];exact Nat.mod_eq_of_lt (by omega)
 rw [BitVec.toNat_and,h1,show (BitVec.ofInt 64 127).toNat=127 from rfl,show a &&&127=a % 128 from Nat.and_two_pow_sub_one_eq_mod a 7,IntKind.wrap_i64]
 omega
theorem pop_ok(x:Nat)(hs:x<18446744073709551616)(w:World) :
 Calls Tryz.prog 240 #[.int .u64 x] w fun e w'=>e=.returned (.int .i64 (Lib.popAux 64 x))∧w=w':=by
 have hD:=hid ((S123 8 x (by omega)).1)
 go_enter Tryz.func240,Tryz.ntmps240
 go_wp2
 go_ret
 refine ⟨ret_i64 ?_,rfl⟩
 have h:=hD.out
 unfold S1 S2 S3 at h
 rw [M85,M51,M15] at h
 have d2:(x:Int) / 2=((x / 2:Nat):Int):=by omega
 have a1:bits .and .u64 ((x:Int) / 2) 6148914691236517205=((x / 2 &&&6148914691236517205:Nat):Int):=by rw [d2];exact andN _ 6148914691236517205 (by omega) (by omega)
 have a2:bits .and .u64 (x:Int) 6148914691236517205=((x &&&6148914691236517205:Nat):Int):=andN _ 6148914691236517205 (by omega) (by omega)
 have l1:=le_mask (x / 2) 6148914691236517205
 have l2:=le_mask x 6148914691236517205
 rw [a1,a2]
 clear a1 a2 d2
 generalize ha:(x / 2 &&&6148914691236517205)+(x &&&6148914691236517205)=a at *
 have w1:IntKind.u64.wrap (((x / 2 &&&6148914691236517205:Nat):Int)+((x &&&6148914691236517205:Nat):Int))=(a:Int):=by rw [IntKind.wrap_u64];omega
 rw [w1]
 have ha':a<18446744073709551616:=by omega
 clear w1 l1 l2 ha
 have d4:(a:Int) / 4=((a / 4:Nat):Int):=by omega
 have a1:bits .and .u64 ((a:Int) / 4) 3689348814741910323=((a / 4 &&&3689348814741910323:Nat):Int):=by rw [d4];exact andN _ 3689348814741910323 (by omega) (by omega)
 have a2:bits .and .u64 (a:Int) 3689348814741910323=((a &&&3689348814741910323:Nat):Int):=andN _ 3689348814741910323 (by omega) (by omega)
 have l1:=le_mask (a / 4) 3689348814741910323
 have l2:=le_mask a 3689348814741910323
 rw [a1,a2]
 clear a1 a2 d4
 generalize hb:(a / 4 &&&3689348814741910323)+(a &&&3689348814741910323)=b at *
 have w1:IntKind.u64.wrap (((a / 4 &&&3689348814741910323:Nat):Int)+((a &&&3689348814741910323:Nat):Int))=(b:Int):=by rw [IntKind.wrap_u64];omega
 rw [w1]
 have hb':b<8000000000000000000:=by omega
 clear w1 l1 l2 hb
 have w2:IntKind.u64.wrap ((b:Int) / 16+(b:Int))=((b / 16+b:Nat):Int):=by rw [IntKind.wrap_u64];omega
 rw [w2,show (1085102592571150095:Int)=((1085102592571150095:Nat):Int) from rfl,andN _ 1085102592571150095 (by omega) (by omega)]
 have l3:=le_mask (b / 16+b) 1085102592571150095
 generalize (b / 16+b) &&&1085102592571150095=c at *
 clear w2
 have w3:IntKind.u64.wrap ((c:Int)+(c:Int) / 256)=((c+c / 256:Nat):Int):=by rw [IntKind.wrap_u64];omega
 rw [w3]
 have w4:IntKind.u64.wrap (((c+c / 256:Nat):Int)+((c+c / 256:Nat):Int) / 65536)=((c+c / 256+(c+c / 256) / 65536:Nat):Int):=by rw [IntKind.wrap_u64];omega
 rw [w4]
 have w5:IntKind.u64.wrap (((c+c / 256+(c+c / 256) / 65536:Nat):Int)+((c+c / 256+(c+c / 256) / 65536:Nat):Int) / 4294967296)=((c+c / 256+(c+c / 256) / 65536+(c+c / 256+(c+c / 256) / 65536) / 4294967296:Nat):Int):=by rw [IntKind.wrap_u64];omega
 rw [w5]
 obtain ⟨f1,f2⟩:=D_sum x c _ _ _ hs h rfl rfl rfl
 rw [and127 _ f1,f2]
def mem(s:Nat):List Nat:=(List.range 64).filter fun i=>s.testBit i
theorem popAux_filter:∀(n s:Nat),Lib.popAux n s=((List.range n).filter fun i=>s.testBit i).length
 | 0,s=>by simp [Lib.popAux]
 | n+1,s=>by
  rw [List.range_succ_eq_map,List.filter_cons]
  simp only [Lib.popAux,popAux_filter n (s / 2),List.filter_map,Function.comp_def,Nat.testBit_succ,Nat.testBit_zero]
  by_cases h:s % 2=1
  ·simp [h];omega
  ·have:s % 2=0:=by omega
   simp [this]
theorem count_mem(s:Nat):Lib.popAux 64 s=(mem s).length:=popAux_filter 64 s
theorem count_ok(x:Nat)(hs:x<18446744073709551616)(w:World) :
 Calls Tryz.prog 232 #[.int .u64 x] w fun e w'=>e=.returned (.int .i64 ((mem x).length:Int))∧w=w':=by
 go_enter Tryz.func232,Tryz.ntmps232
 go_wp2_with (go_at_call 240;refine (pop_ok _ hs _).mono ?_;rintro e w' ⟨rfl,rfl⟩)
 go_ret
 exact ⟨ret_i64 (by rw [count_mem]),rfl⟩
theorem info_int:(Tryz.prog.info? 3).map (fun i=>(i.zero,i.size,i.bytes))=some (some (.int .i64 0),1,8):=by kernel_rfl
end Go.Proofs.YtpgckpafjiojfaaGreatDoor.BW
