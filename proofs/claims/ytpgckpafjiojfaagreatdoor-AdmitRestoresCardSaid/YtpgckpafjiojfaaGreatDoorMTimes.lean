/- The Gregorian calendar, plainly: the date of a day, and the day of a date. No program in sight. Dates that an expression matches: the next day's date, and that whatever is matched once is matched again within eight years. No program in sight. The least and the greatest number that a test takes, how many it takes, and the seconds of a day that an expression matches. No program in sight. The times that an expression matches, in local seconds: the next one, the one before, day by day. No program in sight. How the first, or last, matched second of a day is looked for: hour by hour, minute by minute. No program in sight. The list of the matched times of a span, day by day. No program in sight. -/
import Derived.KernelRfl
namespace Go.Proofs.YtpgckpafjiojfaaGreatDoor.MC
def leap(y:Nat):Bool:=(decide (y % 4=0)&&!decide (y % 100=0))||decide (y % 400=0)
def lp(y:Nat):Nat:=if leap y then 1 else 0
def mlen(y m:Nat):Nat:=if m=2 then 28+lp y else if m=4∨m=6∨m=9∨m=11 then 30 else 31
def leaps(y:Nat):Nat:=y / 4 - y / 100+y / 400
def before(y:Nat):Nat:=365*(y - 1970)+leaps (y - 1) - 477
def cumT(m:Nat):Nat:=if m=1 then 0 else if m=2 then 31 else if m=3 then 59 else if m=4 then 90 else if m=5 then 120 else if m=6 then 151 else if m=7 then 181 else if m=8 then 212 else if m=9 then 243 else if m=10 then 273 else if m=11 then 304 else 334
def cum(y m:Nat):Nat:=cumT m+if 2<m then lp y else 0
def dn(y m d:Nat):Nat:=before y+cum y m+d - 1
def Valid(y m d:Nat):Prop:=1970≤y∧1≤m∧m≤12∧1≤d∧d≤mlen y m
theorem lp_le(y:Nat):lp y≤1:=by unfold lp;split<;>omega
theorem lp_eq(y:Nat):lp y=1∧(y % 4=0∧(y % 100≠0∨y % 400=0))∨lp y=0∧(y % 4≠0∨(y % 100=0∧y % 400≠0)):=by
 unfold lp leap
 by_cases h4:y % 4=0
 ·by_cases h100:y % 100=0
  ·by_cases h400:y % 400=0
   ·simp [h400];omega
   ·simp [h4,h100,h400]
  ·simp [h4,h100]
 ·have h400:y % 400≠0:=by omega
  simp [h4,h400]
theorem leaps_succ(y:Nat):leaps (y+1)=leaps y+lp (y+1):=by
 have h:=lp_eq (y+1)
 unfold leaps
 have a1:(y+1) / 4=y / 4+if (y+1) % 4=0 then 1 else 0:=by split<;>omega
 have a2:(y+1) / 100=y / 100+if (y+1) % 100=0 then 1 else 0:=by split<;>omega
 have a3:(y+1) / 400=y / 400+if (y+1) % 400=0 then 1 else 0:=by split<;>omega
 have a4:y / 100≤y / 4:=by omega
 rw [a1,a2,a3]
 generalize y / 4=p at *
 generalize y / 100=q at *
 generalize y / 400=r at *
 by_cases h4:(y+1) % 4=0
 ·by_cases h100:(y+1) % 100=0
  ·by_cases h400:(y+1) % 400=0
   ·rw [if_pos h4,if_pos h100,if_pos h400];omega
   ·rw [if_pos h4,if_pos h100,if_neg h400];omega
  ·have h400:(y+1) % 400≠0:=by omega
   rw [if_pos h4,if_neg h100,if_neg h400];omega
 ·have h100:(y+1) % 100≠0:=by omega
  have h400:(y+1) % 400≠0:=by omega
  rw [if_neg h4,if_neg h100,if_neg h400];omega
theorem leaps_ge{y:Nat}(h:1969≤y):477≤leaps y:=by unfold leaps;omega
theorem before_succ{y:Nat}(h:1970≤y):before (y+1)=before y+365+lp y:=by
 obtain ⟨z,rfl⟩:∃z,y=z+1:=⟨y - 1,by omega⟩
 have h1:=leaps_succ z
 have h2:=leaps_ge (y:=z) (by omega)
 unfold before
 simp only [Nat.add_sub_cancel]
 omega
theorem before_mono{y z:Nat}(h:1970≤y)(hz:y≤z):before y≤before z:=by
 induction z with
 | zero=>omega
 | succ z ih =>
  rcases Nat.lt_or_ge z y with hlt|hge
  ·have:y=z+1:=by omega
   subst this;exact Nat.le_refl _
  ·have:=ih hge
   have:=before_succ (y:=z) (by omega)
   omega
theorem cum_succ(y m:Nat)(h1:1≤m)(h2:m<12):cum y (m+1)=cum y m+mlen y m:=by
 unfold cum cumT mlen
 obtain h|h|h|h|h|h|h|h|h|h|h:m=1∨m=2∨m=3∨m=4∨m=5∨m=6∨m=7∨m=8∨m=9∨m=10∨m=11:=by omega
 all_goals (subst h;simp)
 all_goals omega
theorem cum_last(y:Nat):cum y 12+mlen y 12=365+lp y:=by unfold cum cumT mlen;simp;omega
theorem cum_one(y:Nat):cum y 1=0:=by unfold cum cumT;simp
theorem mlen_bounds(y m:Nat):28≤mlen y m∧mlen y m≤31:=by
 have:=lp_le y
 unfold mlen;split
 ·omega
 ·split<;>omega
theorem cum_mono(y:Nat){m k:Nat}(h1:1≤m)(hk:m<k)(h2:k≤12):cum y m+mlen y m≤cum y k:=by
 induction k with
 | zero=>omega
 | succ k ih =>
  rcases Nat.lt_or_ge m k with hlt|hge
  ·have h3:=ih hlt (by omega)
   have h4:=cum_succ y k (by omega) (by omega)
   omega
  ·obtain rfl:m=k:=by omega
   rw [cum_succ y m h1 (by omega)]
   exact Nat.le_refl _
theorem valid_cum{y m d:Nat}(h:Valid y m d):cum y m+d≤365+lp y:=by
 obtain ⟨_,h1,h2,h3,h4⟩:=h
 rcases Nat.lt_or_ge m 12 with hlt|hge
 ·have:=cum_mono y h1 hlt (Nat.le_refl _)
  have:=cum_last y
  omega
 ·obtain rfl:m=12:=by omega
  have:=cum_last y
  omega
theorem dn_range{y m d:Nat}(h:Valid y m d):before y≤dn y m d∧dn y m d<before (y+1):=by
 have h1:=valid_cum h
 have h2:=before_succ h.1
 obtain ⟨_,_,_,h3,_⟩:=h
 unfold dn
 omega
theorem dn_inj{y m d y' m' d':Nat}(h:Valid y m d)(h':Valid y' m' d')(e:dn y m d=dn y' m' d'):y=y'∧m=m'∧d=d':=by
 have r:=dn_range h
 have r':=dn_range h'
 have hy:y=y':=by
  rcases Nat.lt_trichotomy y y' with hlt|heq|hgt
  ·have:=before_mono (y:=y+1) (z:=y') (by have:=h.1;omega) hlt;omega
  ·exact heq
  ·have:=before_mono (y:=y'+1) (z:=y) (by have:=h'.1;omega) hgt;omega
 subst hy
 obtain ⟨_,a1,a2,a3,a4⟩:=h
 obtain ⟨_,b1,b2,b3,b4⟩:=h'
 have hm:m=m':=by
  rcases Nat.lt_trichotomy m m' with hlt|heq|hgt
  ·have:=cum_mono y a1 hlt b2;unfold dn at e;omega
  ·exact heq
  ·have:=cum_mono y b1 hgt a2;unfold dn at e;omega
 subst hm
 refine ⟨rfl,rfl,?_⟩
 unfold dn at e
 omega
def fy(d:Nat):Nat:=(d - d / 1460+d / 36524 - d / 146096) / 365
def sy(y:Nat):Nat:=365*y+y / 4 - y / 100
theorem fy_mono_step(d:Nat)(h:d+1<146097):fy d≤fy (d+1):=by
 unfold fy
 apply Nat.div_le_div_right
 omega
theorem fy_mono{a b:Nat}(h:a≤b)(hb:b<146097):fy a≤fy b:=by
 induction b with
 | zero =>
  obtain rfl:a=0:=by omega
  exact Nat.le_refl _
 | succ b ih =>
  rcases Nat.lt_or_ge b a with hlt|hge
  ·obtain rfl:a=b+1:=by omega
   exact Nat.le_refl _
  ·exact Nat.le_trans (ih hge (by omega)) (fy_mono_step b hb)
def syE(y:Nat):Nat:=if y=400 then 146097 else sy y
theorem fy_ends:((List.range 400).all fun y=>fy (sy y)==y&&fy (syE (y+1) - 1)==y&&decide (sy y<syE (y+1)))=true:=by decide +kernel
theorem sy_find(d:Nat):∀k,k≤400→d<syE k→∃y,y<k∧sy y≤d∧d<syE (y+1):=by
 intro k
 induction k with
 | zero=>intro _ h;simp [syE,sy] at h
 | succ k ih =>
  intro hk h
  rcases Nat.lt_or_ge d (sy k) with hlt|hge
  ·have he:syE k=sy k:=by unfold syE;rw [if_neg (by omega)]
   obtain ⟨y,h1,h2,h3⟩:=ih (by omega) (by rw [he];exact hlt)
   exact ⟨y,by omega,h2,h3⟩
  ·exact ⟨k,by omega,hge,h⟩
theorem fy_spec(d:Nat)(h:d<146097):fy d<400∧sy (fy d)≤d∧d<syE (fy d+1):=by
 obtain ⟨y,h1,h2,h3⟩:=sy_find d 400 (Nat.le_refl _) (by simp [syE];exact h)
 have hall:=List.all_eq_true.1 fy_ends y (List.mem_range.2 h1)
 simp only [Bool.and_eq_true,beq_iff_eq,decide_eq_true_eq] at hall
 obtain ⟨⟨e1,e2⟩,_⟩:=hall
 have hE:syE (y+1)≤146097:=by
  unfold syE sy;split
  ·omega
  ·omega
 have a1:=fy_mono h2 h
 have a2:=fy_mono (a:=d) (b:=syE (y+1) - 1) (by omega) (by omega)
 rw [e1] at a1
 rw [e2] at a2
 have:fy d=y:=by omega
 rw [this]
 exact ⟨h1,h2,h3⟩
def mp(doy:Nat):Nat:=(5*doy+2) / 153
def cumM(k:Nat):Nat:=(153*k+2) / 5
theorem mp_spec:((List.range 366).all fun e=>decide (mp e≤11)&&decide (cumM (mp e)≤e)&&(decide (mp e=11)||decide (e<cumM (mp e+1))))=true:=by decide +kernel
theorem mp_at(e:Nat)(h:e<366):mp e≤11∧cumM (mp e)≤e∧(mp e=11∨e<cumM (mp e+1)):=by
 have:=List.all_eq_true.1 mp_spec e (List.mem_range.2 h)
 simp only [Bool.and_eq_true,Bool.or_eq_true,decide_eq_true_eq] at this
 exact ⟨this.1.1,this.1.2,this.2⟩
def ymdC(n:Nat):Nat × Nat × Nat :=
 let N:=n+719468
 let y:=fy (N % 146097)
 let doy:=N % 146097 - sy y
 let k:=mp doy
 if 12<k+3 then (400*(N / 146097)+y+1,k+3 - 12,doy - cumM k+1) else (400*(N / 146097)+y,k+3,doy - cumM k+1)
theorem leaps_cycle(c y:Nat)(h:y<400):leaps (400*c+y)=97*c+y / 4 - y / 100:=by unfold leaps;omega
theorem doy_lt(c d y:Nat)(f1:y<400)(_f2:sy y≤d)(f3:d<syE (y+1)):d - sy y<365+lp (400*c+y+1):=by
 have hs:=leaps_succ (400*c+y)
 have hc:=leaps_cycle c y f1
 by_cases h400:y+1=400
 ·have h1:lp (400*c+y+1)=1:=by
   rcases lp_eq (400*c+y+1) with h|h<;>omega
  unfold syE at f3
  rw [if_pos h400] at f3
  obtain rfl:y=399:=by omega
  rw [h1]
  unfold sy
  omega
 ·unfold syE at f3
  rw [if_neg h400] at f3
  have hc2:=leaps_cycle c (y+1) (by omega)
  have e:400*c+(y+1)=400*c+y+1:=by omega
  rw [e] at hc2
  generalize lp (400*c+y+1)=l at *
  have h3:(y+1) / 4 - (y+1) / 100=y / 4 - y / 100+l:=by omega
  unfold sy at *
  have h4:(y+1) / 100≤(y+1) / 4:=by omega
  have h5:y / 100≤y / 4:=by omega
  omega
theorem before_s(y:Nat):before (y+1)=365*(y+1 - 1970)+leaps y - 477:=by unfold before;rw [Nat.add_sub_cancel]
theorem month_lit(y k:Nat)(h:k≤9):cum y (k+3)=59+lp y+cumM k∧mlen y (k+3)+cumM k=cumM (k+1):=by
 obtain h|h|h|h|h|h|h|h|h|h:k=0∨k=1∨k=2∨k=3∨k=4∨k=5∨k=6∨k=7∨k=8∨k=9:=by omega
 all_goals (subst h;unfold cum cumT mlen cumM;simp)
 all_goals omega
def fromM(Y e:Nat):Nat × Nat × Nat:=if 12<mp e+3 then (Y+1,mp e+3 - 12,e - cumM (mp e)+1) else (Y,mp e+3,e - cumM (mp e)+1)
theorem fromM_spec(n Y e:Nat)(hdoy:e<365+lp (Y+1))(hY:Y ≥ 1969)(hn:n+719468=365*Y+leaps Y+e) :
 Valid (fromM Y e).1 (fromM Y e).2.1 (fromM Y e).2.2∧dn (fromM Y e).1 (fromM Y e).2.1 (fromM Y e).2.2=n:=by
 have hl1:=lp_le (Y+1)
 obtain ⟨m1,m2,m3⟩:=mp_at e (by omega)
 unfold fromM
 generalize hk:mp e=k at *
 have hls:=leaps_ge hY
 by_cases hk12:12<k+3
 ·rw [if_pos hk12]
  simp only
  have hb:before (Y+1)=365*(Y+1 - 1970)+leaps Y - 477:=before_s Y
  have c10:cumM 10=306:=by decide
  have c11:cumM 11=337:=by decide
  obtain h|h:k=10∨k=11:=by omega
  ·subst h
   rw [c10] at m2 ⊢
   rw [c11] at m3
   have hm:mlen (Y+1) 1=31:=by unfold mlen;rw [if_neg (by decide),if_neg (by decide)]
   have hc:cum (Y+1) 1=0:=cum_one _
   refine ⟨⟨by omega,by omega,by omega,by omega,?_⟩,?_⟩
   ·show e - 306+1≤mlen (Y+1) 1
    rw [hm];omega
   ·show before (Y+1)+cum (Y+1) 1+(e - 306+1) - 1=n
    rw [hb,hc];omega
  ·subst h
   rw [c11] at m2 ⊢
   have hm:mlen (Y+1) 2=28+lp (Y+1):=by unfold mlen;rw [if_pos rfl]
   have hc:cum (Y+1) 2=31:=by unfold cum cumT;simp
   refine ⟨⟨by omega,by omega,by omega,by omega,?_⟩,?_⟩
   ·show e - 337+1≤mlen (Y+1) 2
    rw [hm];omega
   ·show before (Y+1)+cum (Y+1) 2+(e - 337+1) - 1=n
    rw [hb,hc];omega
 ·rw [if_neg hk12]
  simp only
  have hY1:1970≤Y:=by
   rcases Nat.lt_or_ge Y 1970 with hlt|hge
   ·obtain rfl:Y=1969:=by omega
    exfalso
    have:leaps 1969=477:=by decide
    have hk9:k≤9:=by omega
    obtain h|h|h|h|h|h|h|h|h|h:k=0∨k=1∨k=2∨k=3∨k=4∨k=5∨k=6∨k=7∨k=8∨k=9:=by omega
    all_goals (subst h;simp only [cumM] at m3;omega)
   ·exact hge
  obtain ⟨z,rfl⟩:∃z,Y=z+1:=⟨Y - 1,by omega⟩
  have hs:=leaps_succ z
  have hlz:=lp_le (z+1)
  have hlz2:=leaps_ge (y:=z) (by omega)
  have hk9:k≤9:=by omega
  obtain ⟨hc,hm⟩:=month_lit (z+1) k hk9
  have hb:before (z+1)=365*(z+1 - 1970)+leaps z - 477:=before_s z
  have hu:e<cumM (k+1):=by
   rcases m3 with h|h
   ·omega
   ·exact h
  generalize cumM (k+1)=u at *
  generalize cumM k=v at *
  refine ⟨⟨by omega,by omega,by omega,by omega,?_⟩,?_⟩
  ·show e - v+1≤mlen (z+1) (k+3)
   omega
  ·show before (z+1)+cum (z+1) (k+3)+(e - v+1) - 1=n
   rw [hb,hc];omega
theorem ymdC_spec(n:Nat):Valid (ymdC n).1 (ymdC n).2.1 (ymdC n).2.2∧dn (ymdC n).1 (ymdC n).2.1 (ymdC n).2.2=n:=by
 obtain ⟨f1,f2,f3⟩:=fy_spec ((n+719468) % 146097) (Nat.mod_lt _ (by omega))
 have he:ymdC n=fromM (400*((n+719468) / 146097)+fy ((n+719468) % 146097)) ((n+719468) % 146097 - sy (fy ((n+719468) % 146097))):=by
  unfold ymdC fromM
  rfl
 have hN:n+719468=146097*((n+719468) / 146097)+(n+719468) % 146097:=(Nat.div_add_mod _ _).symm
 rw [he]
 generalize hc0:(n+719468) / 146097=c at *
 generalize hd0:(n+719468) % 146097=d at *
 clear he hc0 hd0
 generalize fy d=y at *
 have hcl:=leaps_cycle c y f1
 refine fromM_spec n _ _ (doy_lt c d y f1 f2 f3) ?_ ?_
 ·rcases Nat.lt_or_ge (400*c+y) 1969 with hlt|hge
  ·exfalso
   have h477:leaps (400*c+y)≤477:=by unfold leaps;omega
   have hdl:=doy_lt c d y f1 f2 f3
   have hlp:=lp_le (400*c+y+1)
   unfold sy at *
   omega
  ·exact hge
 ·unfold sy at *
  omega
noncomputable def ymd(n:Nat):Nat × Nat × Nat:=Classical.choose (p:=fun t:Nat × Nat × Nat=>Valid t.1 t.2.1 t.2.2∧dn t.1 t.2.1 t.2.2=n) ⟨ymdC n,ymdC_spec n⟩
theorem ymd_spec(n:Nat):Valid (ymd n).1 (ymd n).2.1 (ymd n).2.2∧dn (ymd n).1 (ymd n).2.1 (ymd n).2.2=n :=
 Classical.choose_spec (p:=fun t:Nat × Nat × Nat=>Valid t.1 t.2.1 t.2.2∧dn t.1 t.2.1 t.2.2=n) ⟨ymdC n,ymdC_spec n⟩
theorem ymd_eq(n:Nat):ymd n=ymdC n:=by
 obtain ⟨h1,h2⟩:=ymd_spec n
 obtain ⟨g1,g2⟩:=ymdC_spec n
 obtain ⟨e1,e2,e3⟩:=dn_inj h1 g1 (h2.trans g2.symm)
 exact Prod.ext e1 (Prod.ext e2 e3)
theorem ymd_dn{y m d:Nat}(h:Valid y m d):ymd (dn y m d)=(y,m,d):=by
 obtain ⟨h1,h2⟩:=ymd_spec (dn y m d)
 obtain ⟨e1,e2,e3⟩:=dn_inj h1 h h2
 exact Prod.ext e1 (Prod.ext e2 e3)
structure Ex where
 s:Nat
 mi:Nat
 h:Nat
 d:Nat
 mo:Nat
 w:Nat
 ad:Bool
 aw:Bool
def dayRule(x:Ex)(d w:Nat):Bool:=if x.ad&&x.aw then true else if x.ad then x.w.testBit w else if x.aw then x.d.testBit d else x.d.testBit d||x.w.testBit w
noncomputable def M(x:Ex)(n:Nat):Bool:=x.mo.testBit (ymd n).2.1&&dayRule x (ymd n).2.2 ((n+4) % 7)
theorem M_dn(x:Ex){y m d:Nat}(h:Valid y m d):M x (dn y m d)=(x.mo.testBit m&&dayRule x d ((dn y m d+4) % 7)):=by
 unfold M
 rw [ymd_dn h]
theorem within(k:Nat):before (ymd k).1≤k∧k<before ((ymd k).1+1)∧1970≤(ymd k).1:=by
 obtain ⟨hv,hn⟩:=ymd_spec k
 have:=dn_range hv
 rw [hn] at this
 exact ⟨this.1,this.2,hv.1⟩
theorem next_year{k m d:Nat}(h:Valid ((ymd k).1+1) m d):k≤dn ((ymd k).1+1) m d∧dn ((ymd k).1+1) m d≤k+731:=by
 obtain ⟨h1,h2,h3⟩:=within k
 have hr:=dn_range h
 have b1:=before_succ h3
 have b2:=before_succ (y:=(ymd k).1+1) (by omega)
 have l1:=lp_le (ymd k).1
 have l2:=lp_le ((ymd k).1+1)
 omega
theorem lp_not4(z:Nat)(h:z % 4≠0):lp z=0:=by
 rcases lp_eq z with h1|h1
 ·exact absurd h1.2.1 h
 ·exact h1.1
theorem lp_cent(z:Nat)(h4:z % 4=0)(h:lp z=0):lp (z+4)=1:=by
 have h1:z % 100=0:=by
  rcases lp_eq z with h1|h1
  ·omega
  ·rcases h1.2 with h2|h2
   ·exact absurd h4 h2
   ·exact h2.1
 rcases lp_eq (z+4) with h2|h2
 ·exact h2.1
 ·omega
theorem leap_year(y:Nat)(hy:1970≤y):∃z,lp z=1∧y<z∧(lp y=1→before z≤before y+2921)∧(lp y=0→before z≤before y+2555):=by
 have b0:=before_succ hy
 have b1:before (y+2)=before (y+1)+365+lp (y+1):=before_succ (y:=y+1) (by omega)
 have b2:before (y+3)=before (y+2)+365+lp (y+2):=before_succ (y:=y+2) (by omega)
 have b3:before (y+4)=before (y+3)+365+lp (y+3):=before_succ (y:=y+3) (by omega)
 have key:∀L,L % 4=0→y<L→∃z,lp z=1∧y<z∧before z≤before L+1460:=by
  intro L h4 hL
  by_cases hl:lp L=1
  ·exact ⟨L,hl,hL,by omega⟩
  ·have hl0:lp L=0:=by have:=lp_le L;omega
   have c0:=before_succ (y:=L) (by omega)
   have c1:before (L+2)=before (L+1)+365+lp (L+1):=before_succ (y:=L+1) (by omega)
   have c2:before (L+3)=before (L+2)+365+lp (L+2):=before_succ (y:=L+2) (by omega)
   have c3:before (L+4)=before (L+3)+365+lp (L+3):=before_succ (y:=L+3) (by omega)
   have n1:=lp_not4 (L+1) (by omega)
   have n2:=lp_not4 (L+2) (by omega)
   have n3:=lp_not4 (L+3) (by omega)
   exact ⟨L+4,lp_cent L h4 hl0,by omega,by omega⟩
 obtain h|h|h|h:y % 4=0∨y % 4=1∨y % 4=2∨y % 4=3:=by omega
 ·have n1:=lp_not4 (y+1) (by omega)
  have n2:=lp_not4 (y+2) (by omega)
  have n3:=lp_not4 (y+3) (by omega)
  by_cases hl:lp y=1
  ·obtain ⟨z,z1,z2,z3⟩:=key (y+4) (by omega) (by omega)
   exact ⟨z,z1,z2,fun _=>by omega,fun h=>by omega⟩
  ·have hl0:lp y=0:=by have:=lp_le y;omega
   exact ⟨y+4,lp_cent y h hl0,by omega,fun h=>absurd h hl,fun _=>by omega⟩
 ·have n0:=lp_not4 y (by omega)
  have n1:=lp_not4 (y+1) (by omega)
  have n2:=lp_not4 (y+2) (by omega)
  obtain ⟨z,z1,z2,z3⟩:=key (y+3) (by omega) (by omega)
  exact ⟨z,z1,z2,fun h=>by omega,fun _=>by omega⟩
 ·have n0:=lp_not4 y (by omega)
  have n1:=lp_not4 (y+1) (by omega)
  obtain ⟨z,z1,z2,z3⟩:=key (y+2) (by omega) (by omega)
  exact ⟨z,z1,z2,fun h=>by omega,fun _=>by omega⟩
 ·have n0:=lp_not4 y (by omega)
  obtain ⟨z,z1,z2,z3⟩:=key (y+1) (by omega) (by omega)
  exact ⟨z,z1,z2,fun h=>by omega,fun _=>by omega⟩
theorem leap_day(k:Nat):∃y,lp y=1∧1970≤y∧k≤dn y 2 29∧dn y 2 29≤k+2920:=by
 obtain ⟨h1,h2,h3⟩:=within k
 generalize (ymd k).1=y at *
 have hd:∀z,dn z 2 29=before z+59:=fun z=>by
  have:cum z 2=31:=by unfold cum cumT;simp
  unfold dn;omega
 by_cases c0:lp y=1∧k≤before y+59
 ·exact ⟨y,c0.1,h3,by rw [hd];exact c0.2,by rw [hd];omega⟩
 ·obtain ⟨z,z1,z2,z3,z4⟩:=leap_year y h3
  have hm:=before_mono (y:=y+1) (z:=z) (by omega) z2
  have hl:=lp_le y
  refine ⟨z,z1,by omega,by rw [hd];omega,?_⟩
  rw [hd]
  by_cases c1:lp y=1
  ·have h5:¬k≤before y+59:=fun h=>c0 ⟨c1,h⟩
   have:=z3 c1
   omega
  ·have:=z4 (by omega)
   omega
theorem M_again{x:Ex}{m:Nat}(h:M x m=true)(k:Nat):∃n,k≤n∧n≤k+2920∧M x n=true:=by
 obtain ⟨⟨v1,v2,v3,v4,v5⟩,hn⟩:=ymd_spec m
 unfold M at h
 generalize (ymd m).1=y0 at *
 generalize (ymd m).2.1=mo at *
 generalize (ymd m).2.2=d0 at *
 rw [Bool.and_eq_true] at h
 obtain ⟨hmo,hr⟩:=h
 have hY:=(within k).2.2
 have hml:=mlen_bounds ((ymd k).1+1) mo
 have byDay:x.d.testBit d0=true→(x.ad=false)→∃n,k≤n∧n≤k+2920∧M x n=true:=by
  intro hd ha
  have hrule:∀w,dayRule x d0 w=true:=fun w=>by unfold dayRule;simp [ha,hd]
  by_cases h29:mo=2∧d0=29
  ·obtain ⟨rfl,rfl⟩:=h29
   obtain ⟨y,l1,l2,l3,l4⟩:=leap_day k
   have hV:Valid y 2 29:=⟨l2,by omega,by omega,by omega,by unfold mlen;rw [if_pos rfl];omega⟩
   exact ⟨dn y 2 29,l3,l4,by rw [M_dn x hV,hmo,hrule];rfl⟩
  ·have hV:Valid ((ymd k).1+1) mo d0:=⟨by omega,v2,v3,v4,by
    have:=lp_le y0
    unfold mlen at v5 ⊢
    split at v5
    ·rename_i h2;rw [if_pos h2];omega
    ·rename_i h2;rw [if_neg h2];exact v5⟩
   obtain ⟨n1,n2⟩:=next_year hV
   exact ⟨_,n1,by omega,by rw [M_dn x hV,hmo,hrule];rfl⟩
 have byWeek:x.w.testBit ((m+4) % 7)=true→(x.aw=false)→∃n,k≤n∧n≤k+2920∧M x n=true:=by
  intro hw ha
  have hrule:∀d,dayRule x d ((m+4) % 7)=true:=fun d=>by unfold dayRule;cases had:x.ad<;>simp [ha,hw]
  have hV1:Valid ((ymd k).1+1) mo 1:=⟨by omega,v2,v3,by omega,by omega⟩
  obtain ⟨j,hj,hjw⟩:∃j,j≤6∧(dn ((ymd k).1+1) mo 1+j+4) % 7=(m+4) % 7:=⟨((m+4) % 7+7 - (dn ((ymd k).1+1) mo 1+4) % 7) % 7,by omega,by omega⟩
  have hV:Valid ((ymd k).1+1) mo (1+j):=⟨by omega,v2,v3,by omega,by omega⟩
  have he:dn ((ymd k).1+1) mo (1+j)=dn ((ymd k).1+1) mo 1+j:=by unfold dn;omega
  obtain ⟨n1,n2⟩:=next_year hV
  exact ⟨_,n1,by omega,by rw [M_dn x hV,he,hjw,hmo,hrule];rfl⟩
 unfold dayRule at hr
 cases ha:x.ad<;>cases hb:x.aw<;>simp only [ha,hb,Bool.and_self,Bool.and_true,Bool.and_false,if_true,if_false,Bool.false_eq_true] at hr
 ·rcases Bool.or_eq_true_iff.1 hr with h|h
  ·exact byDay h ha
  ·exact byWeek h hb
 ·exact byDay hr ha
 ·exact byWeek hr hb
 ·have hV:Valid ((ymd k).1+1) mo 1:=⟨by omega,v2,v3,by omega,by omega⟩
  obtain ⟨n1,n2⟩:=next_year hV
  refine ⟨_,n1,by omega,?_⟩
  rw [M_dn x hV,hmo]
  unfold dayRule
  simp [ha,hb]
theorem least_ex(p:Nat→Bool):∀n,∃r:Option Nat,(∀s,r=some s→s<n∧p s=true∧∀t,t<s→p t=false)∧(r=none→∀s,s<n→p s=false)
 | 0=>⟨none,(fun _ h=>by cases h),(fun _ s hs=>by omega)⟩
 | n+1=>by
  obtain ⟨r,h1,h2⟩:=least_ex p n
  cases r with
  | some s=>exact ⟨some s,fun s' e=>by
   injection e with e;subst e
   obtain ⟨a,b,c⟩:=h1 s rfl
   exact ⟨by omega,b,c⟩,fun e=>by cases e⟩
  | none =>
   cases hp:p n
   ·exact ⟨none,(fun _ h=>by cases h),fun _ s hs=>by
     rcases Nat.lt_or_ge s n with h|h
     ·exact h2 rfl s h
     ·obtain rfl:s=n:=by omega
      exact hp⟩
   ·exact ⟨some n,fun s e=>by
     injection e with e;subst e
     exact ⟨by omega,hp,fun t ht=>h2 rfl t ht⟩,fun e=>by cases e⟩
noncomputable def least(p:Nat→Bool)(n:Nat):Option Nat:=Classical.choose (least_ex p n)
theorem least_some{p:Nat→Bool}{n s:Nat}(h:least p n=some s):s<n∧p s=true∧∀t,t<s→p t=false:=(Classical.choose_spec (least_ex p n)).1 s h
theorem least_none{p:Nat→Bool}{n:Nat}(h:least p n=none):∀s,s<n→p s=false:=(Classical.choose_spec (least_ex p n)).2 h
theorem least_eq{p:Nat→Bool}{n s:Nat}(h1:s<n)(h2:p s=true)(h3:∀t,t<s→p t=false):least p n=some s:=by
 cases h:least p n with
 | none=>have:=least_none h s h1;rw [h2] at this;cases this
 | some t =>
  obtain ⟨a,b,c⟩:=least_some h
  rcases Nat.lt_trichotomy t s with hlt|heq|hgt
  ·have:=h3 t hlt;rw [b] at this;cases this
  ·rw [heq]
  ·have:=c s hgt;rw [h2] at this;cases this
theorem least_eq_none{p:Nat→Bool}{n:Nat}(h:∀s,s<n→p s=false):least p n=none:=by
 cases h':least p n with
 | none=>rfl
 | some t =>
  obtain ⟨a,b,c⟩:=least_some h'
  have:=h t a;rw [b] at this;cases this
def cnt(p:Nat→Bool):Nat→Nat
 | 0=>0
 | n+1=>cnt p n+if p n then 1 else 0
theorem cnt_add(p:Nat→Bool)(a:Nat):∀b,cnt p (a+b)=cnt p a+cnt (fun i=>p (a+i)) b
 | 0=>by simp [cnt]
 | b+1=>by
  rw [←Nat.add_assoc,cnt,cnt,cnt_add p a b]
  omega
theorem cnt_congr{p q:Nat→Bool}:∀n,(∀i,i<n→p i=q i)→cnt p n=cnt q n
 | 0,_=>rfl
 | n+1,h=>by
  rw [cnt,cnt,cnt_congr n (fun i hi=>h i (by omega)),h n (by omega)]
theorem cnt_le(p:Nat→Bool):∀n,cnt p n≤n
 | 0=>Nat.le_refl _
 | n+1=>by have:=cnt_le p n;rw [cnt];split<;>omega
theorem cnt_false{p:Nat→Bool}:∀n,(∀i,i<n→p i=false)→cnt p n=0
 | 0,_=>rfl
 | n+1,h=>by rw [cnt,cnt_false n (fun i hi=>h i (by omega)),h n (by omega)];rfl
theorem cnt_mono(p:Nat→Bool){a b:Nat}(h:a≤b):cnt p a≤cnt p b:=by
 obtain ⟨c,rfl⟩:∃c,b=a+c:=⟨b - a,by omega⟩
 rw [cnt_add];omega
theorem cnt_blocks(p q:Nat→Bool)(k:Nat)(hk:0<k):∀n,cnt (fun i=>p (i / k)&&q (i % k)) (n*k)=cnt p n*cnt q k
 | 0=>by simp [cnt]
 | n+1=>by
  rw [Nat.succ_mul,cnt_add,cnt_blocks p q k hk n,cnt]
  have e:cnt (fun i=>p ((n*k+i) / k)&&q ((n*k+i) % k)) k=cnt (fun i=>p n&&q i) k:=by
   apply cnt_congr
   intro i hi
   have h1:(n*k+i) / k=n:=by
    rw [Nat.mul_comm,Nat.mul_add_div hk,Nat.div_eq_of_lt hi];rfl
   have h2:(n*k+i) % k=i:=by
    rw [Nat.mul_comm,Nat.mul_add_mod,Nat.mod_eq_of_lt hi]
   rw [h1,h2]
  rw [e]
  cases hp:p n
  ·have h0:cnt (fun i=>false&&q i) k=0:=cnt_false k (fun _ _=>rfl)
   rw [h0];simp
  ·have h0:cnt (fun i=>true&&q i) k=cnt q k:=cnt_congr k (fun _ _=>rfl)
   rw [h0];simp [Nat.add_mul]
theorem cnt_part(p q:Nat→Bool)(k:Nat)(hk:0<k)(n r:Nat)(hr:r≤k):cnt (fun i=>p (i / k)&&q (i % k)) (n*k+r)=cnt p n*cnt q k+if p n then cnt q r else 0:=by
 rw [cnt_add,cnt_blocks p q k hk n]
 have e:cnt (fun i=>p ((n*k+i) / k)&&q ((n*k+i) % k)) r=cnt (fun i=>p n&&q i) r:=by
  apply cnt_congr
  intro i hi
  have h1:(n*k+i) / k=n:=by
   rw [Nat.mul_comm,Nat.mul_add_div hk,Nat.div_eq_of_lt (by omega)];rfl
  have h2:(n*k+i) % k=i:=by
   rw [Nat.mul_comm,Nat.mul_add_mod,Nat.mod_eq_of_lt (by omega)]
  rw [h1,h2]
 rw [e]
 cases hp:p n
 ·have h0:cnt (fun i=>false&&q i) r=0:=cnt_false r (fun _ _=>rfl)
  rw [h0];simp
 ·have h0:cnt (fun i=>true&&q i) r=cnt q r:=cnt_congr r (fun _ _=>rfl)
  rw [h0];simp
def clk(x:Ex)(s:Nat):Bool:=x.h.testBit (s / 3600)&&(x.mi.testBit (s / 60 % 60)&&x.s.testBit (s % 60))
theorem clk_hour(x:Ex)(s:Nat):clk x s=(x.h.testBit (s / 3600)&&(fun r=>x.mi.testBit (r / 60)&&x.s.testBit (r % 60)) (s % 3600)):=by
 unfold clk
 have h1:s / 60 % 60=s % 3600 / 60:=by omega
 have h2:s % 60=s % 3600 % 60:=by omega
 rw [h1,h2]
theorem clk_count(x:Ex)(s:Nat):cnt (clk x) s =
 cnt x.h.testBit (s / 3600)*(cnt x.mi.testBit 60*cnt x.s.testBit 60) +
 if x.h.testBit (s / 3600) then cnt x.mi.testBit (s % 3600 / 60)*cnt x.s.testBit 60+(if x.mi.testBit (s % 3600 / 60) then cnt x.s.testBit (s % 60) else 0) else 0:=by
 have h0:cnt (clk x) s=cnt (fun i=>x.h.testBit (i / 3600)&&(fun r=>x.mi.testBit (r / 60)&&x.s.testBit (r % 60)) (i % 3600)) (s / 3600*3600+s % 3600):=by
  rw [Nat.div_add_mod' s 3600]
  exact cnt_congr s (fun i _=>clk_hour x i)
 rw [h0,cnt_part _ (fun r=>x.mi.testBit (r / 60)&&x.s.testBit (r % 60)) 3600 (by omega) (s / 3600) (s % 3600) (by omega)]
 have h1:cnt (fun r=>x.mi.testBit (r / 60)&&x.s.testBit (r % 60)) 3600=cnt x.mi.testBit 60*cnt x.s.testBit 60:=by
  have:=cnt_blocks x.mi.testBit x.s.testBit 60 (by omega) 60
  exact this
 have h2:cnt (fun r=>x.mi.testBit (r / 60)&&x.s.testBit (r % 60)) (s % 3600)=cnt x.mi.testBit (s % 3600 / 60)*cnt x.s.testBit 60+if x.mi.testBit (s % 3600 / 60) then cnt x.s.testBit (s % 60) else 0:=by
  have e:s % 3600=s % 3600 / 60*60+s % 3600 % 60:=(Nat.div_add_mod' _ 60).symm
  have e2:s % 3600 % 60=s % 60:=by omega
  rw [e,e2,cnt_part x.mi.testBit x.s.testBit 60 (by omega) (s % 3600 / 60) (s % 60) (by omega),←e2,←e]
 rw [h1,h2]
noncomputable def fst(x:Ex)(from_:Nat):Option Nat:=least (fun s=>decide (from_≤s)&&clk x s) 86400
theorem fst_some{x:Ex}{a s:Nat}:fst x a=some s↔s<86400∧a≤s∧clk x s=true∧∀t,a≤t→t<s→clk x t=false:=by
 constructor
 ·intro h
  obtain ⟨h1,h2,h3⟩:=least_some h
  simp only [Bool.and_eq_true,decide_eq_true_eq] at h2
  refine ⟨h1,h2.1,h2.2,fun t ht hs=>?_⟩
  have:=h3 t hs
  simpa [ht] using this
 ·rintro ⟨h1,h2,h3,h4⟩
  refine least_eq h1 (by simp [h2,h3]) fun t ht=>?_
  by_cases ha:a≤t
  ·simp [h4 t ha ht]
  ·simp [ha]
theorem fst_none{x:Ex}{a:Nat}:fst x a=none↔∀t,a≤t→t<86400→clk x t=false:=by
 constructor
 ·intro h t ha ht
  have:=least_none h t ht
  simpa [ha] using this
 ·intro h
  refine least_eq_none fun t ht=>?_
  by_cases ha:a≤t
  ·simp [h t ha ht]
  ·simp [ha]
structure Ex.Ok(x:Ex):Prop where
 s:∃i,i<60∧x.s.testBit i=true
 mi:∃i,i<60∧x.mi.testBit i=true
 h:∃i,i<24∧x.h.testBit i=true
 d:∃i,1≤i∧i≤31∧x.d.testBit i=true
 mo:∃i,1≤i∧i≤12∧x.mo.testBit i=true
 w:∃i,i≤6∧x.w.testBit i=true
 s60:x.s<2^60
 mi60:x.mi<2^60
 h24:x.h<2^24
 d32:x.d<2^32
 mo13:x.mo<2^13
 w7:x.w<2^7
noncomputable def T(x:Ex)(l:Nat):Bool:=M x (l / 86400)&&clk x (l % 86400)
theorem T_at(x:Ex)(d s:Nat)(hs:s<86400):T x (d*86400+s)=(M x d&&clk x s):=by
 unfold T
 have e1:(d*86400+s) / 86400=d:=by omega
 have e2:(d*86400+s) % 86400=s:=by omega
 rw [e1,e2]
theorem M_never{x:Ex}{k:Nat}(h:∀n,k≤n→n≤k+2920→M x n=false)(m:Nat):M x m=false:=by
 cases hm:M x m
 ·rfl
 ·obtain ⟨n,h1,h2,h3⟩:=M_again hm k
  rw [h n h1 h2] at h3;cases h3
theorem cnt_T_day(x:Ex)(d r:Nat)(hr:r≤86400):cnt (T x) (d*86400+r)=cnt (T x) (d*86400)+if M x d then cnt (clk x) r else 0:=by
 rw [cnt_add]
 congr 1
 cases hm:M x d
 ·rw [cnt_false r (fun i hi=>by rw [T_at x d i (by omega),hm];rfl)];rfl
 ·rw [cnt_congr (q:=clk x) r (fun i hi=>by rw [T_at x d i (by omega),hm];rfl)];rfl
theorem clk_hms(x:Ex)(h m s:Nat)(hm:m<60)(hs:s<60):clk x (h*3600+m*60+s)=(x.h.testBit h&&(x.mi.testBit m&&x.s.testBit s)):=by
 unfold clk
 have e1:(h*3600+m*60+s) / 3600=h:=by omega
 have e2:(h*3600+m*60+s) / 60 % 60=m:=by omega
 have e3:(h*3600+m*60+s) % 60=s:=by omega
 rw [e1,e2,e3]
theorem clk_hour_no{x:Ex}{t:Nat}(h:x.h.testBit (t / 3600)=false):clk x t=false:=by unfold clk;rw [h];rfl
theorem clk_min_no{x:Ex}{t:Nat}(h:x.mi.testBit (t / 60 % 60)=false):clk x t=false:=by unfold clk;rw [h];simp
theorem clk_sec_no{x:Ex}{t:Nat}(h:x.s.testBit (t % 60)=false):clk x t=false:=by unfold clk;rw [h];simp
def NoC(x:Ex)(a c:Nat):Prop:=∀t,a≤t→t<c→clk x t=false
theorem NoC.start{x:Ex}{a c:Nat}(h:c≤a):NoC x a c:=fun t h1 h2=>by omega
theorem NoC.skip{x:Ex}{a c d:Nat}(H:NoC x a c)(h:d≤a∨d≤c):NoC x a d:=fun t h1 h2=>by
 rcases h with h|h
 ·omega
 ·exact H t h1 (by omega)
theorem NoC.hours{x:Ex}{a c h:Nat}(H:NoC x a (c*3600))(hb:∀j,c≤j→j<h→x.h.testBit j=false):NoC x a (h*3600):=fun t h1 h2=>by
 rcases Nat.lt_or_ge t (c*3600) with h3|h3
 ·exact H t h1 h3
 ·exact clk_hour_no (hb _ (by omega) (by omega))
theorem NoC.mins{x:Ex}{a h e m:Nat}(hm:m≤60)(H:NoC x a (h*3600+e*60))(hb:∀j,e≤j→j<m→x.mi.testBit j=false):NoC x a (h*3600+m*60):=fun t h1 h2=>by
 rcases Nat.lt_or_ge t (h*3600+e*60) with h3|h3
 ·exact H t h1 h3
 ·exact clk_min_no (hb _ (by omega) (by omega))
theorem NoC.secs{x:Ex}{a h m e s:Nat}(hs:s≤60)(H:NoC x a (h*3600+m*60+e))(hb:∀j,e≤j→j<s→a≤h*3600+m*60+j→x.s.testBit j=false):NoC x a (h*3600+m*60+s):=fun t h1 h2=>by
 rcases Nat.lt_or_ge t (h*3600+m*60+e) with h3|h3
 ·exact H t h1 h3
 ·exact clk_sec_no (hb _ (by omega) (by omega) (by omega))
theorem NoC.found{x:Ex}{a t:Nat}(H:NoC x a t)(h:a≤t)(ht:t<86400)(hc:clk x t=true):fst x a=some t:=fst_some.2 ⟨ht,h,hc,H⟩
theorem NoC.none{x:Ex}{a:Nat}(H:NoC x a 86400):fst x a=none:=fst_none.2 H
noncomputable def rest(x:Ex)(c hi:Nat):List Nat:=(List.range' c (hi+1 - c)).filter (T x)
theorem rest_nil{x:Ex}{c hi:Nat}(h:∀l,c≤l→l≤hi→T x l=false):rest x c hi=[]:=by
 unfold rest
 rw [List.filter_eq_nil_iff]
 intro l hl
 rw [List.mem_range'_1] at hl
 rw [h l hl.1 (by omega)]
 simp
theorem rest_over{x:Ex}{c hi:Nat}(h:hi<c):rest x c hi=[]:=rest_nil fun l h1 h2=>by omega
theorem rest_cons{x:Ex}{c hi:Nat}(hc:c≤hi)(h:T x c=true):rest x c hi=c::rest x (c+1) hi:=by
 unfold rest
 rw [show hi+1 - c=(hi+1 - (c+1))+1 from by omega,List.range'_succ,List.filter_cons,if_pos h]
theorem rest_step{x:Ex}{c hi:Nat}(h:T x c=false):rest x c hi=rest x (c+1) hi:=by
 rcases Nat.lt_or_ge hi c with hc|hc
 ·rw [rest_over hc,rest_over (by omega)]
 ·unfold rest
  rw [show hi+1 - c=(hi+1 - (c+1))+1 from by omega,List.range'_succ,List.filter_cons,if_neg (by rw [h];simp)]
theorem rest_skip{x:Ex}{c hi:Nat}:∀k,(∀l,c≤l→l<c+k→T x l=false)→rest x c hi=rest x (c+k) hi
 | 0,_=>rfl
 | k+1,h=>by rw [rest_skip k (fun l h1 h2=>h l h1 (by omega)),rest_step (h (c+k) (by omega) (by omega)),Nat.add_assoc]
theorem rest_skip'{x:Ex}{c d hi:Nat}(hd:c≤d)(h:∀l,c≤l→l<d→T x l=false):rest x c hi=rest x d hi:=by
 have:=rest_skip (x:=x) (c:=c) (hi:=hi) (d - c) (fun l h1 h2=>h l h1 (by omega))
 rwa [show c+(d - c)=d from by omega] at this
theorem rest_mem{x:Ex}{c hi l:Nat}:l∈rest x c hi↔c≤l∧l≤hi∧T x l=true:=by
 unfold rest
 rw [List.mem_filter,List.mem_range'_1]
 constructor
 ·rintro ⟨h1,h2⟩;exact ⟨h1.1,by omega,h2⟩
 ·rintro ⟨h1,h2,h3⟩;exact ⟨⟨h1,by omega⟩,h3⟩
theorem rest_sorted(x:Ex)(c hi:Nat):(rest x c hi).Pairwise (·<·):=(List.pairwise_lt_range' ..).filter _
theorem T_day{x:Ex}{d s:Nat}(hs:s<86400)(hm:M x d=true):T x (d*86400+s)=clk x s:=by rw [T_at x d s hs,hm];rfl
theorem rest_day_none{x:Ex}{d f hi:Nat}(hf:f≤86400)(h:fst x f=none):rest x (d*86400+f) hi=rest x ((d+1)*86400) hi :=
 rest_skip' (by omega) fun l h1 h2=>by
  have:=fst_none.1 h (l % 86400) (by omega) (by omega)
  unfold T;rw [this];simp
theorem rest_day_some{x:Ex}{d f s hi:Nat}(h:fst x f=some s):rest x (d*86400+f) hi=rest x (d*86400+s) hi:=by
 obtain ⟨h1,h2,h3,h4⟩:=fst_some.1 h
 refine rest_skip' (by omega) fun l h5 h6=>?_
 have:=h4 (l % 86400) (by omega) (by omega)
 unfold T;rw [this];simp
theorem sorted_gap{p:Nat→Bool}{s n:Nat}{pre suf:List Nat}{d:Nat}(h:pre++d::suf=(List.range' s n).filter p){j:Nat}(h1:s≤j)(h2:j<d)(hp:p j=true):∃e,pre.getLast?=some e∧j≤e:=by
 have hs:((List.range' s n).filter p).Pairwise (·<·):=(List.pairwise_lt_range' ..).filter _
 have hd:d∈(List.range' s n).filter p:=by rw [←h];simp
 rw [List.mem_filter,List.mem_range'_1] at hd
 have hj:j∈(List.range' s n).filter p:=by rw [List.mem_filter,List.mem_range'_1];exact ⟨⟨h1,by omega⟩,hp⟩
 rw [←h] at hs hj
 rw [List.pairwise_append] at hs
 obtain ⟨q1,q2,q3⟩:=hs
 rw [List.mem_append,List.mem_cons] at hj
 rcases hj with hj|rfl|hj
 ·obtain ⟨q,e,rfl⟩:∃q e,pre=q++[e]:=by
   rcases List.eq_nil_or_concat pre with h0|⟨q,e,h0⟩
   ·rw [h0] at hj;cases hj
   ·exact ⟨q,e,by rw [h0];simp⟩
  refine ⟨e,by simp,?_⟩
  rw [List.mem_append,List.mem_singleton] at hj
  rcases hj with hj|rfl
  ·rw [List.pairwise_append] at q1
   exact Nat.le_of_lt (q1.2.2 j hj e (by simp))
  ·exact Nat.le_refl _
 ·omega
 ·have:=(List.pairwise_cons.1 q2).1 j hj;omega
def cOf(lo:Nat)(pre:List Nat):Nat:=match pre.getLast? with|none=>lo|some e=>(e+1)*86400
theorem cOf_nil(lo:Nat):cOf lo []=lo:=rfl
theorem cOf_snoc(lo:Nat)(pre:List Nat)(d:Nat):cOf lo (pre++[d])=(d+1)*86400:=by unfold cOf;simp
noncomputable def dUp(x:Ex)(s n:Nat):List Nat:=(List.range' s n).filter (M x)
theorem days_gap{x:Ex}{lo n d:Nat}{pre:List Nat}(h:(pre++[d]) <+: dUp x (lo / 86400) n){l:Nat}(h1:cOf lo pre≤l)(h2:l<d*86400):T x l=false:=by
 cases ht:T x l with
 | false=>rfl
 | true =>
  obtain ⟨suf,hsuf⟩:=h
  unfold T at ht
  rw [Bool.and_eq_true] at ht
  have hlo:lo / 86400≤l / 86400:=by
   cases hg:pre.getLast? with
   | none=>unfold cOf at h1;rw [hg] at h1;exact Nat.div_le_div_right h1
   | some e =>
    have he:e∈dUp x (lo / 86400) n:=by rw [←hsuf];simp;exact .inl (List.mem_of_getLast? hg)
    unfold dUp at he
    rw [List.mem_filter,List.mem_range'_1] at he
    unfold cOf at h1;rw [hg] at h1
    simp only at h1
    omega
  obtain ⟨e,he,hle⟩:=sorted_gap (by unfold dUp at hsuf;rw [List.append_assoc] at hsuf;exact hsuf) hlo (by omega) ht.1
  unfold cOf at h1
  rw [he] at h1
  simp only at h1
  omega
theorem days_end{x:Ex}{lo hi:Nat}{l:Nat}(h1:cOf lo (dUp x (lo / 86400) (hi / 86400+1 - lo / 86400))≤l)(hlo:lo≤l)(h2:l≤hi):T x l=false:=by
 cases ht:T x l with
 | false=>rfl
 | true =>
  unfold T at ht
  rw [Bool.and_eq_true] at ht
  have hm:l / 86400∈dUp x (lo / 86400) (hi / 86400+1 - lo / 86400):=by
   unfold dUp
   rw [List.mem_filter,List.mem_range'_1]
   have:=Nat.div_le_div_right (c:=86400) hlo
   have:=Nat.div_le_div_right (c:=86400) h2
   exact ⟨⟨by omega,by omega⟩,ht.1⟩
  have hs:(dUp x (lo / 86400) (hi / 86400+1 - lo / 86400)).Pairwise (·<·):=(List.pairwise_lt_range' ..).filter _
  generalize dUp x (lo / 86400) (hi / 86400+1 - lo / 86400)=L at *
  rcases List.eq_nil_or_concat L with h0|⟨q,e,h0⟩
  ·rw [h0] at hm;cases hm
  ·rw [List.concat_eq_append] at h0
   subst h0
   rw [cOf_snoc] at h1
   rw [List.mem_append,List.mem_singleton] at hm
   rcases hm with hm|hm
   ·rw [List.pairwise_append] at hs
    have:=hs.2.2 _ hm e (by simp)
    omega
   ·omega
theorem dUp_mem{x:Ex}{s n d:Nat}(h:d∈dUp x s n):s≤d∧d<s+n∧M x d=true:=by
 unfold dUp at h
 rw [List.mem_filter,List.mem_range'_1] at h
 exact ⟨h.1.1,h.1.2,h.2⟩
theorem cOf_le{x:Ex}{lo n d:Nat}{pre:List Nat}(h:(pre++[d]) <+: dUp x (lo / 86400) n):cOf lo pre≤max lo (d*86400)∧lo≤cOf lo pre:=by
 obtain ⟨suf,hsuf⟩:=h
 have hs:(dUp x (lo / 86400) n).Pairwise (·<·):=(List.pairwise_lt_range' ..).filter _
 cases hg:pre.getLast? with
 | none=>unfold cOf;rw [hg];exact ⟨Nat.le_max_left ..,Nat.le_refl _⟩
 | some e =>
  have hem:=List.mem_of_getLast? hg
  have he:e∈dUp x (lo / 86400) n:=by rw [←hsuf];simp;exact .inl hem
  have h1:=dUp_mem he
  rw [←hsuf,List.append_assoc,List.pairwise_append] at hs
  have h2:=hs.2.2 e hem d (by simp)
  unfold cOf;rw [hg]
  simp only
  have h3:(e+1)*86400≤d*86400:=Nat.mul_le_mul_right _ h2
  exact ⟨Nat.le_trans h3 (Nat.le_max_right ..),by omega⟩
theorem rest_next_day{x:Ex}{lo n d hi:Nat}{pre:List Nat}(h:(pre++[d]) <+: dUp x (lo / 86400) n):rest x (cOf lo pre) hi=rest x (d*86400+(lo - d*86400)) hi:=by
 have hc:=cOf_le h
 have e:d*86400+(lo - d*86400)=max lo (d*86400):=by omega
 rw [e]
 refine rest_skip' hc.1 fun l h1 h2=>?_
 rcases Nat.lt_or_ge l (d*86400) with h3|h3
 ·exact days_gap h h1 h3
 ·omega
theorem cOf_ge(x:Ex)(lo n:Nat):lo≤cOf lo (dUp x (lo / 86400) n):=by
 unfold cOf
 cases hg:(dUp x (lo / 86400) n).getLast? with
 | none=>exact Nat.le_refl _
 | some e =>
  have h1:=dUp_mem (List.mem_of_getLast? hg)
  simp only
  omega
end Go.Proofs.YtpgckpafjiojfaaGreatDoor.MC
