/- A gate of the program and one of the reference side by side: what their calls leave. -/
import Derived.Test.YtpgckpafjiojfaaGreatDoorAKl
import Derived.Test.YtpgckpafjiojfaaGreatDoorAKR
namespace Go.Proofs.YtpgckpafjiojfaaGreatDoor.AD
open Go Go.RowKit BW
open BK (Bx BoxAt RBoxAt Blk only_refl only_drew only_drewN only_setCell only_trans only_of_below only_alloc below_drewN)
theorem RAt.keepB{w w':World}{R:RLy}{x:Gt}(h:RAt w R x)(ht:Turn (R.own x.js.length) w w'){b:Nat}{t:TypeId}{cs:Array Value}(hb:Blk w b t cs)(n1:t≠150)(n2:t≠196)(n3:t≠3)(n4:t≠199):Blk w' b t cs:=by
 refine (ht.block b hb.lt ?_).trans hb
 rintro (rfl|rfl|⟨h0,e⟩|⟨k,hk,hi⟩)
 ·exact blk_ne hb h.gate n1 rfl
 ·exact blk_ne hb h.lm n2 rfl
 ·exact h.rne h0 hb n3 e
 ·obtain ⟨h1,h2⟩:=h.job k _ (List.getElem?_eq_getElem hk)
  rcases hi with rfl|rfl
  ·exact blk_ne hb h1 n2 rfl
  ·exact blk_ne hb h2 n4 rfl
structure Two(B n:Nat)(w0:World)(L:Ly)(R:RLy)(x y:Gt)(W:World):Prop where
 g:GAt W L x
 r:RAt W R y
 gn:x.js.length=n
 rn:y.js.length=n
 ap:∀i,L.sup n i→¬R.sup n i
 lo:∀i,L.own n i→B≤i
 ro:∀i,R.own n i→B≤i
 bel:Below B w0 W
 le:B≤w0.heap.size
section
variable{B n:Nat}{w0 W W':World}{L:Ly}{R:RLy}{x y z:Gt}
theorem Two.below(H:Two B n w0 L R x y W)(hb:Below W.heap.size W W'):Two B n w0 L R x y W' :=
 ⟨H.g.below hb,H.r.below hb,H.gn,H.rn,H.ap,H.lo,H.ro,H.bel.trans (hb.mono (Nat.le_trans H.le H.bel.size)),H.le⟩
theorem Two.turnG(H:Two B n w0 L R x y W)(hg:GAt W' L z)(ht:Turn (L.own x.js.length) W W')(hn:z.js.length=x.js.length):Two B n w0 L R z y W' :=
 ⟨hg,H.r.turn ht (fun i hi ho=>H.ap i (.inl (by rw [←H.gn];exact ho)) (by rw [←H.rn];exact hi)),hn.trans H.gn,H.rn,H.ap,H.lo,H.ro,ht.below (fun i ho=>H.lo i (by rw [←H.gn];exact ho)) H.bel H.le,H.le⟩
theorem Two.turnR(H:Two B n w0 L R x y W)(hr:RAt W' R z)(ht:Turn (R.own y.js.length) W W')(hn:z.js.length=y.js.length):Two B n w0 L R x z W' :=
 ⟨H.g.turn ht (fun i hi ho=>H.ap i (by rw [←H.gn];exact hi) (.inl (by rw [←H.rn];exact ho))),hr,H.gn,hn.trans H.rn,H.ap,H.lo,H.ro,ht.below (fun i ho=>H.ro i (by rw [←H.rn];exact ho)) H.bel H.le,H.le⟩
end
structure PlS(B n:Nat)(w0:World)(sb:Nat)(s:Stp)(L:Ly)(R:RLy)(x y:Gt)(W:World):Prop where
 t:Two B n w0 L R x y W
 st:Blk W sb 86 (stC s)
section
variable{B n sb:Nat}{s:Stp}{w0 W W':World}{L:Ly}{R:RLy}{x y z:Gt}
theorem PlS.below(H:PlS B n w0 sb s L R x y W)(hb:Below W.heap.size W W'):PlS B n w0 sb s L R x y W':=⟨H.t.below hb,H.st.below hb H.st.lt⟩
theorem PlS.turnG(H:PlS B n w0 sb s L R x y W)(hg:GAt W' L z)(ht:Turn (L.own x.js.length) W W')(hn:z.js.length=x.js.length):PlS B n w0 sb s L R z y W' :=
 ⟨H.t.turnG hg ht hn,H.t.g.keeps ht _ _ _ H.st (by decide) (by decide) (by decide) (by decide)⟩
theorem PlS.turnR(H:PlS B n w0 sb s L R x y W)(hr:RAt W' R z)(ht:Turn (R.own y.js.length) W W')(hn:z.js.length=y.js.length):PlS B n w0 sb s L R x z W' :=
 ⟨H.t.turnR hr ht hn,H.t.r.keepB ht H.st (by decide) (by decide) (by decide) (by decide)⟩
theorem pl_take(H:PlS B n w0 sb s L R x y W)(job now:Int){er:Int}(he:x.take job now=(er,z)):Calls Tryz.prog 13 #[.pointer (some ⟨L.g,0,none⟩),.int .i64 job,.int .i64 now] W fun e w'=>e=.returned (.int .i64 er)∧PlS B n w0 sb s L R z y w' :=
 (gtake_ok H.t.g job now).mono fun e w' ⟨h1,h2,h3⟩=>by rw [he] at h1 h2;exact ⟨h1,H.turnG h2 h3 ((congrArg (fun p=>p.2.js.length) he).symm.trans Gt.take_len)⟩
theorem pl_give(H:PlS B n w0 sb s L R x y W)(job:Int)(ok:Bool)(now:Int){ev er:Int}(he:x.give job ok now=(ev,er,z)):Calls Tryz.prog 10 #[.pointer (some ⟨L.g,0,none⟩),.int .i64 job,.bool ok,.int .i64 now] W fun e w'=>e=.returned (.tuple #[.int .i64 ev,.int .i64 er])∧PlS B n w0 sb s L R z y w' :=
 (ggive_ok H.t.g job ok now).mono fun e w' ⟨h1,h2,h3⟩=>by rw [he] at h1 h2;exact ⟨h1,H.turnG h2 h3 ((congrArg (fun p=>p.2.2.js.length) he).symm.trans Gt.give_len)⟩
theorem pl_rtake(H:PlS B n w0 sb s L R x y W)(job now:Int){er:Int}(he:y.take job now=(er,z)):Calls Tryz.prog 25 #[.pointer (some ⟨R.g,0,none⟩),.int .i64 job,.int .i64 now] W fun e w'=>e=.returned (.int .i64 er)∧PlS B n w0 sb s L R x z w' :=
 (rgtake_ok H.t.r job now).mono fun e w' ⟨h1,h2,h3⟩=>by rw [he] at h1 h2;exact ⟨h1,H.turnR h2 h3 ((congrArg (fun p=>p.2.js.length) he).symm.trans Gt.take_len)⟩
theorem pl_rgive(H:PlS B n w0 sb s L R x y W)(job:Int)(ok:Bool)(now:Int){ev er:Int}(he:y.give job ok now=(ev,er,z)):Calls Tryz.prog 26 #[.pointer (some ⟨R.g,0,none⟩),.int .i64 job,.bool ok,.int .i64 now] W fun e w'=>e=.returned (.tuple #[.int .i64 ev,.int .i64 er])∧PlS B n w0 sb s L R x z w' :=
 (rggive_ok H.t.r job ok now).mono fun e w' ⟨h1,h2,h3⟩=>by rw [he] at h1 h2;exact ⟨h1,H.turnR h2 h3 ((congrArg (fun p=>p.2.2.js.length) he).symm.trans Gt.give_len)⟩
end
section
variable{B n sb:Nat}{s:Stp}{w0 W W':World}{O L:Ly}{R:RLy}{u x y z:Gt}
end
section
variable{S0 S1 S2:World→Prop}{gp rp:Value}{sb:Nat}{s:Stp}{er:Int}{listed:Array Bool}{v:Nat→Value}{W W':World}
end
end Go.Proofs.YtpgckpafjiojfaaGreatDoor.AD
