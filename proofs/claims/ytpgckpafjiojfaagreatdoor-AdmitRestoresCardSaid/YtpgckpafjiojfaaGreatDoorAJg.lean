/- A cap that is full; gates whose limiters are laid anew; the regions of Restore that store a limiter. -/
import Derived.Test.YtpgckpafjiojfaaGreatDoorAJG
import Derived.Test.YtpgckpafjiojfaaGreatDoorAIw
open Go.Lib (hid)
set_option maxRecDepth 16000
set_option maxHeartbeats 40000000
namespace Go.Proofs.YtpgckpafjiojfaaGreatDoor.AD
open Go Go.RowKit BW
open BK (Bx BoxAt Blk only_refl only_drew only_drewN only_setCell only_trans only_of_below only_alloc below_drewN)
section
variable{w:World}{b:Nat}{c:Cp}
theorem ctake1_no(h:CpAt w b c)(hi:c.Inv){q r j:Nat}(hj:j<c.n)(hq:w.cell? ⟨q,0,none⟩=some (.pointer (some ⟨b,0,none⟩)))(hr:w.cell? ⟨r,0,none⟩=some (.int .i64 j))(hf:¬0<min (c.most j - c.runs j) (c.all - c.total)) :
 Calls Tryz.prog 113 #[.pointer (some ⟨q,0,none⟩),.pointer (some ⟨r,0,none⟩)] w fun e w'=>e=.returned (.tuple #[.int .i64 0,.int .i64 4])∧Below w.heap.size w w':=by
 have HF:=cfree_ok h hi hj
 rw [decide_eq_false hf] at HF
 have HF':=hid HF
 clear h hi HF hf
 go_enter Tryz.func113,Tryz.ntmps113
 go_wp2_with fail
 refine (HF'.out).mono ?_
 rintro e w1 ⟨rfl,hb⟩
 have HB:=hid hb
 clear hb hq hr
 go_wp2_with fail
 go_ret2
 exact ⟨rfl,HB.out⟩
theorem ctake_no(h:CpAt w b c)(hi:c.Inv){j:Nat}(hj:j<c.n)(hf:¬0<min (c.most j - c.runs j) (c.all - c.total)):Calls Tryz.prog 48 #[.pointer (some ⟨b,0,none⟩),.int .i64 j] w fun e w'=>e=.returned (.int .i64 4)∧Below w.heap.size w w':=by
 have HX:=hid (fun (W:World) (hW:CpAt W b c) (q r:Nat) hq hr=>cof_ok hW hj 113 q r (fun _ _=>rfl) _ _ (ctake1_no hW hi hj hq hr hf))
 have HH:=hid h
 clear h hi hf
 go_enter Tryz.func48,Tryz.ntmps48
 go_wp2_with fail
 refine (HX.out _ ?_ _ _ ?_ ?_).mono ?_
 ·exact HH.out.below (two_boxes w _ _) HH.out.lt
 ·simp
 ·simp
 rintro e w' ⟨rfl,hb⟩
 have HB:=hid hb
 clear hb
 go_wp2_with fail
 go_ret
 exact ⟨rfl,(two_boxes w _ _).trans (HB.out.mono (two_boxes w _ _).size)⟩
end
theorem GAt.newBoth{W W':World}{L:Ly}{x:Gt}(h:GAt W L x){lm:Nat}{l:Lm}(hl:LmAt W' lm l)(hi:l.Inv)(hn:W.heap.size≤lm)(hk:∀b,b<W.heap.size→b≠L.g→W'.heap[b]? = W.heap[b]?)
 (hg:Blk W' L.g 118 ((L.cells x).setIfInBounds 2 (.pointer (some ⟨lm,0,none⟩)))):GAt W' ⟨L.g,L.cp,lm,L.da,L.dc,L.ea,L.ec,L.li,L.bo⟩ ⟨x.cap,l,x.js,x.last⟩:=by
 have kp:∀{g:Nat} {t:TypeId} {cs:Array Value},Blk W g t cs→t≠118→Blk W' g t cs:=fun hb hne=>(hk _ hb.lt (blk_ne hb h.gate hne)).trans hb
 refine ⟨?_,kp h.caps (by decide),hl,fun h0=>?_,fun h0=>?_,fun k j hj=>?_,fun k hk=>⟨?_,?_⟩,⟨h.inv.cap,h.inv.n,hi,h.inv.js,h.inv.last⟩⟩
 ·have:=hg
  unfold Ly.cells at this ⊢
  simpa using this
 ·obtain ⟨b,cs,e,h1,h2⟩:=h.door h0
  exact ⟨b,cs,e,kp h1 (by decide),h2⟩
 ·obtain ⟨b,cs,e,h1,h2⟩:=h.each h0
  exact ⟨b,cs,e,kp h1 (by decide),h2⟩
 ·have:=h.job k j hj
  exact ⟨kp this.1 (by decide),kp this.2 (by decide)⟩
 ·have:=Blk.lt (h.job k _ (List.getElem?_eq_getElem hk)).1
  show L.li k≠lm
  omega
 ·exact (h.one k hk).2
theorem put_zero(c:Cp)(k:Nat):c.put k 0=c:=by
 obtain ⟨a,n,m,r,t⟩:=c
 unfold Cp.put
 simp only [Int.add_zero,Cp.mk.injEq,true_and,and_true]
 funext i
 by_cases h:i=k
 ·rw [if_pos h,h]
 ·rw [if_neg h]
theorem GAt.newLim{W W':World}{L:Ly}{x:Gt}(h:GAt W L x){k:Nat}{j:Jt}(hj:x.js[k]? = some j){li db:Nat}{ds:Array Value}{l:Lm}(hd:L.da=some ⟨db,0,none⟩)(hds:Blk W db 125 ds)(hl:LmAt W' li l)(hi:l.Inv)(hn:W.heap.size≤li)(hk:∀b,b<W.heap.size→b≠db→W'.heap[b]? = W.heap[b]?)
 (hg:Blk W' db 125 (ds.setIfInBounds (k*2) (.pointer (some ⟨li,0,none⟩)))):GAt W' ⟨L.g,L.cp,L.lm,L.da,L.dc,L.ea,L.ec,fun i=>if i=k then li else L.li i,L.bo⟩ ⟨x.cap,x.both,x.js.set k ⟨j.cap,j.runs,l,j.bx⟩,x.last⟩:=by
 have hkl:k<x.js.length:=(List.getElem?_eq_some_iff.1 hj).1
 have kp:∀{g:Nat} {t:TypeId} {cs:Array Value},Blk W g t cs→t≠125→Blk W' g t cs:=fun hb hne=>(hk _ hb.lt (blk_ne hb hds hne)).trans hb
 have hlen:(x.js.set k ⟨j.cap,j.runs,l,j.bx⟩).length=x.js.length:=List.length_set
 have hold:∀(i:Nat) (m:Jt),(x.js.set k ⟨j.cap,j.runs,l,j.bx⟩)[i]? = some m→(i=k∧m=⟨j.cap,j.runs,l,j.bx⟩)∨(i≠k∧x.js[i]? = some m):=fun i m hm=>by
  rw [List.getElem?_set] at hm
  by_cases hik:k=i
  ·rw [if_pos hik,if_pos hkl] at hm
   injection hm with hm
   exact .inl ⟨hik.symm,hm.symm⟩
  ·rw [if_neg hik] at hm
   exact .inr ⟨fun e=>hik e.symm,hm⟩
 obtain ⟨db',ds',e1,e2,e3⟩:=h.door (by omega)
 obtain rfl:db=db':=by rw [hd] at e1;injection e1 with e1;injection e1 with e1
 obtain rfl:ds=ds':=by have e2':=e2;unfold Blk at hds e2';rw [hds] at e2';injection e2' with e2';injection e2' with e2'
 refine ⟨?_,?_,kp h.lm (by decide),fun _=>⟨db,_,hd,hg,fun i hi=>?_⟩,fun h0=>?_,fun i m hm=>?_,fun i hi=>⟨?_,fun q hq hne=>?_⟩,⟨h.inv.cap,?_,h.inv.both,fun m hm=>?_,h.inv.last⟩⟩
 ·have:=kp h.gate (by decide)
  unfold Ly.cells at this ⊢
  rw [hlen]
  exact this
 ·have:=kp h.caps (by decide)
  have e:(⟨x.cap,x.both,x.js.set k ⟨j.cap,j.runs,l,j.bx⟩,x.last⟩:Gt).cp=x.cp:=by
   have:=Gt.cp_put (x:=x) (j':=⟨j.cap,j.runs,l,j.bx⟩) hj rfl x.both x.last
   rw [this,show (⟨j.cap,j.runs,l,j.bx⟩:Jt).runs - j.runs=0 from Int.sub_self _]
   exact put_zero _ _
  rw [e]
  exact this
 ·show (ds.setIfInBounds (k*2) (.pointer (some ⟨li,0,none⟩)))[i*2]? = some (.pointer (some ⟨if i=k then li else L.li i,0,none⟩))∧(ds.setIfInBounds (k*2) (.pointer (some ⟨li,0,none⟩)))[i*2+1]? = some (.pointer (some ⟨L.bo i,0,none⟩))
  rw [hlen] at hi
  have h3:=e3 i hi
  constructor
  ·by_cases hik:i=k
   ·subst hik
    rw [if_pos rfl,Array.getElem?_setIfInBounds_self_of_lt (Array.getElem?_eq_some_iff.1 h3.1).1]
   ·rw [if_neg hik,Array.getElem?_setIfInBounds_ne (by omega)]
    exact h3.1
  ·rw [Array.getElem?_setIfInBounds_ne (by omega)]
   exact h3.2
 ·rw [hlen] at h0
  obtain ⟨b,cs,e,h1,h2⟩:=h.each h0
  refine ⟨b,cs,e,kp h1 (by decide),fun i m hm=>?_⟩
  rcases hold i m hm with ⟨rfl,rfl⟩|⟨_,hm⟩
  ·exact h2 _ j hj
  ·exact h2 _ _ hm
 ·show LmAt W' (if i=k then li else L.li i) m.lm∧BoxAt W' (L.bo i) m.bx
  rcases hold i m hm with ⟨rfl,rfl⟩|⟨hne,hm⟩
  ·rw [if_pos rfl]
   exact ⟨hl,kp (h.job _ _ hj).2 (by decide)⟩
  ·rw [if_neg hne]
   have:=h.job _ _ hm
   exact ⟨kp this.1 (by decide),kp this.2 (by decide)⟩
 ·rw [hlen] at hi
  show (if i=k then li else L.li i)≠L.lm
  split
  ·have:=Blk.lt h.lm
   omega
  ·exact (h.one i hi).1
 ·rw [hlen] at hi hq
  show (if q=k then li else L.li q)≠(if i=k then li else L.li i)∧L.bo q≠L.bo i
  have h1:=(h.one i hi).2 q hq hne
  refine ⟨?_,h1.2⟩
  have l1:=Blk.lt (h.job q _ (List.getElem?_eq_getElem hq)).1
  have l2:=Blk.lt (h.job i _ (List.getElem?_eq_getElem hi)).1
  split
  ·split
   ·omega
   ·omega
  ·split
   ·omega
   ·exact h1.1
 ·show (x.js.set k ⟨j.cap,j.runs,l,j.bx⟩).length≤64
  rw [hlen]
  exact h.inv.n
 ·rcases List.mem_or_eq_of_mem_set hm with hm|rfl
  ·exact h.inv.js m hm
  ·have:=h.inv.js j (List.mem_of_getElem? hj)
   exact ⟨this.1,this.2.1,hi,this.2.2.2⟩
def tupA:Value→Value
 | .tuple cs=>cs.getD 0 undef
 | _=>undef
def blkQ:Value→Nat
 | .pointer (some a)=>a.block
 | _=>0
def LmV(W Z:World)(ol:Option Lm)(v:Value):Prop:=match ol with
 | none=>v=.pointer none
 | some l=>v=.pointer (some ⟨blkQ v,0,none⟩)∧LmAt W (blkQ v) l∧Z.heap.size≤blkQ v
structure RS(c:Nat)(w Z:World)(G:Nat)(T:TypeId)(C0:Array Value)(k:Nat)(er:Int)(ol:Option Lm)(Pl:Nat→Value→Prop)(listed:Array Bool)(v:Nat→Value)(W:World):Prop where
 pl:∀i,listed[i]? = some true→Pl i (v i)
 tup:listed[c]? = some true→v c=.tuple #[tupA (v c),.int .i64 er]
 mv:listed[c+1]? = some true→v (c+1)=v c∧listed[c]? = some true
 ex0:listed[c+2]? = some true→v (c+2)=tupA (v c)∧listed[c+1]? = some true
 ex1:listed[c+3]? = some true→v (c+3)=.int .i64 er
 asg:listed[c+7]? = some true→v (c+7)=.int .i64 er
 st0:listed[c+6]? = some false→Blk W G T C0
 st1:listed[c+6]? = some true→Blk W G T (C0.setIfInBounds k (tupA (v c)))∧listed[c+2]? = some true
 lm:listed[c]? = some true→LmV W Z ol (tupA (v c))
 keep:∀b,b<Z.heap.size→b≠G→W.heap[b]? = Z.heap[b]?
 sz:Z.heap.size≤W.heap.size
 bel:Below w.heap.size w W
section
variable{c:Nat}{w Z W W':World}{G:Nat}{T:TypeId}{C0:Array Value}{k:Nat}{er:Int}{ol:Option Lm}{Pl:Nat→Value→Prop}{listed:Array Bool}{v:Nat→Value}
theorem RS.blk(h:RS c w Z G T C0 k er ol Pl listed v W){b:Nat}{t:TypeId}{cs:Array Value}(hb:Blk Z b t cs)(hne:b≠G):Blk W b t cs:=(h.keep b hb.lt hne).trans hb
theorem RS.plain(h:RS c w Z G T C0 k er ol Pl listed v W){i:Nat}{u:Value}(hi:i<c∨i=c+4∨i=c+5)(hp:Pl i u):RS c w Z G T C0 k er ol Pl (listed.setIfInBounds i true) (updC v i u) W:=by
 have t:∀{m},m≠i→(listed.setIfInBounds i true)[m]? = some true→listed[m]? = some true:=fun hj hz=>(set_at _ hz).resolve_left hj
 have f:∀{m},i≠m→(listed.setIfInBounds i true)[m]? = some false→listed[m]? = some false:=fun hj hz=>set_not hj hz
 refine ⟨fun m hm=>by
  by_cases e:m=i
  ·subst e;rw [updC_eq];exact hp
  ·rw [updC_ne e];exact h.pl m (t e hm),fun hz=>?_,fun hz=>?_,fun hz=>?_,fun hz=>?_,fun hz=>?_,fun hz=>?_,fun hz=>?_,fun hz=>?_,h.keep,h.sz,h.bel⟩
 ·rw [updC_ne (by omega)];exact h.tup (t (by omega) hz)
 ·rw [updC_ne (by omega),updC_ne (by omega)];exact ⟨(h.mv (t (by omega) hz)).1,set_keep (h.mv (t (by omega) hz)).2⟩
 ·rw [updC_ne (by omega),updC_ne (by omega)];exact ⟨(h.ex0 (t (by omega) hz)).1,set_keep (h.ex0 (t (by omega) hz)).2⟩
 ·rw [updC_ne (by omega)];exact h.ex1 (t (by omega) hz)
 ·rw [updC_ne (by omega)];exact h.asg (t (by omega) hz)
 ·exact h.st0 (f (by omega) hz)
 ·rw [updC_ne (by omega)];exact ⟨(h.st1 (t (by omega) hz)).1,set_keep (h.st1 (t (by omega) hz)).2⟩
 ·rw [updC_ne (by omega)];exact h.lm (t (by omega) hz)
theorem RS.call(h:RS c w Z G T C0 k er ol Pl listed v W)(hl:listed[c]? = some false)(hc:∀u,Pl c u){pv:Value}(hb:Below W.heap.size W W')(hlm:LmV W' Z ol pv)(hG:listed[c+6]? = some false→Blk W' G T C0)(hk:∀b,b<Z.heap.size→b≠G→W'.heap[b]? = W.heap[b]?):RS c w Z G T C0 k er ol Pl (listed.setIfInBounds c true) (updC v c (.tuple #[pv,.int .i64 er])) W':=by
 have t:∀{m},m≠c→(listed.setIfInBounds c true)[m]? = some true→listed[m]? = some true:=fun hj hz=>(set_at _ hz).resolve_left hj
 have f:∀{m},c≠m→(listed.setIfInBounds c true)[m]? = some false→listed[m]? = some false:=fun hj hz=>set_not hj hz
 have hp:=hc (.tuple #[pv,.int .i64 er])
 have no:∀{P:Prop},listed[c]? = some true→P:=fun hz=>by rw [hl] at hz;cases hz
 refine ⟨fun m hm=>by
  by_cases e:m=c
  ·subst e;rw [updC_eq];exact hp
  ·rw [updC_ne e];exact h.pl m (t e hm),fun _=>by rw [updC_eq];rfl,fun hz=>?_,fun hz=>?_,fun hz=>?_,fun hz=>?_,fun hz=>?_,fun hz=>?_,fun _=>by rw [updC_eq];exact hlm,fun b h1 h2=>(hk b h1 h2).trans (h.keep b h1 h2),Nat.le_trans h.sz hb.size,h.bel.trans (hb.mono h.bel.size)⟩
 ·exact no (h.mv (t (by omega) hz)).2
 ·exact no (h.mv (h.ex0 (t (by omega) hz)).2).2
 ·rw [updC_ne (by omega)];exact h.ex1 (t (by omega) hz)
 ·rw [updC_ne (by omega)];exact h.asg (t (by omega) hz)
 ·exact hG (f (by omega) hz)
 ·exact no (h.mv (h.ex0 (h.st1 (t (by omega) hz)).2).2).2
theorem RS.move(h:RS c w Z G T C0 k er ol Pl listed v W)(hc:∀u,Pl (c+1) u)(h1:listed[c]? = some true):RS c w Z G T C0 k er ol Pl (listed.setIfInBounds (c+1) true) (updC v (c+1) (v c)) W:=by
 have t:∀{m},m≠(c+1)→(listed.setIfInBounds (c+1) true)[m]? = some true→listed[m]? = some true:=fun hj hz=>(set_at _ hz).resolve_left hj
 have f:∀{m},(c+1)≠m→(listed.setIfInBounds (c+1) true)[m]? = some false→listed[m]? = some false:=fun hj hz=>set_not hj hz
 have hp:=hc ((v c))
 refine ⟨fun m hm=>by
  by_cases e:m=c+1
  ·rw [e,updC_eq];exact hp
  ·rw [updC_ne e];exact h.pl m (t e hm),fun hz=>?_,fun _=>by rw [updC_eq,updC_ne (by omega)];exact ⟨rfl,set_keep h1⟩,fun hz=>by rw [updC_ne (by omega),updC_ne (by omega)];exact ⟨(h.ex0 (t (by omega) hz)).1,set_keep (h.ex0 (t (by omega) hz)).2⟩,fun hz=>by rw [updC_ne (by omega)];exact h.ex1 (t (by omega) hz),fun hz=>by rw [updC_ne (by omega)];exact h.asg (t (by omega) hz),fun hz=>?_,fun hz=>?_,fun hz=>?_,h.keep,h.sz,h.bel⟩
 ·rw [updC_ne (by omega)];exact h.tup (t (by omega) hz)
 ·exact h.st0 (f (by omega) hz)
 ·rw [updC_ne (by omega)];exact ⟨(h.st1 (t (by omega) hz)).1,set_keep (h.st1 (t (by omega) hz)).2⟩
 ·rw [updC_ne (by omega)];exact h.lm (t (by omega) hz)
theorem RS.first(h:RS c w Z G T C0 k er ol Pl listed v W)(hc:∀u,Pl (c+2) u)(h1:listed[c+1]? = some true):RS c w Z G T C0 k er ol Pl (listed.setIfInBounds (c+2) true) (updC v (c+2) (tupA (v c))) W:=by
 have t:∀{m},m≠(c+2)→(listed.setIfInBounds (c+2) true)[m]? = some true→listed[m]? = some true:=fun hj hz=>(set_at _ hz).resolve_left hj
 have f:∀{m},(c+2)≠m→(listed.setIfInBounds (c+2) true)[m]? = some false→listed[m]? = some false:=fun hj hz=>set_not hj hz
 have hp:=hc ((tupA (v c)))
 refine ⟨fun m hm=>by
  by_cases e:m=c+2
  ·rw [e,updC_eq];exact hp
  ·rw [updC_ne e];exact h.pl m (t e hm),fun hz=>?_,fun hz=>by rw [updC_ne (by omega),updC_ne (by omega)];exact ⟨(h.mv (t (by omega) hz)).1,set_keep (h.mv (t (by omega) hz)).2⟩,fun _=>by rw [updC_eq,updC_ne (by omega)];exact ⟨rfl,set_keep h1⟩,fun hz=>by rw [updC_ne (by omega)];exact h.ex1 (t (by omega) hz),fun hz=>by rw [updC_ne (by omega)];exact h.asg (t (by omega) hz),fun hz=>?_,fun hz=>?_,fun hz=>?_,h.keep,h.sz,h.bel⟩
 ·rw [updC_ne (by omega)];exact h.tup (t (by omega) hz)
 ·exact h.st0 (f (by omega) hz)
 ·rw [updC_ne (by omega)];exact ⟨(h.st1 (t (by omega) hz)).1,set_keep (h.st1 (t (by omega) hz)).2⟩
 ·rw [updC_ne (by omega)];exact h.lm (t (by omega) hz)
theorem RS.second(h:RS c w Z G T C0 k er ol Pl listed v W)(hc:∀u,Pl (c+3) u)  : RS c w Z G T C0 k er ol Pl (listed.setIfInBounds (c+3) true) (updC v (c+3) (.int .i64 er)) W:=by
 have t:∀{m},m≠(c+3)→(listed.setIfInBounds (c+3) true)[m]? = some true→listed[m]? = some true:=fun hj hz=>(set_at _ hz).resolve_left hj
 have f:∀{m},(c+3)≠m→(listed.setIfInBounds (c+3) true)[m]? = some false→listed[m]? = some false:=fun hj hz=>set_not hj hz
 have hp:=hc ((.int .i64 er))
 refine ⟨fun m hm=>by
  by_cases e:m=c+3
  ·rw [e,updC_eq];exact hp
  ·rw [updC_ne e];exact h.pl m (t e hm),fun hz=>?_,fun hz=>by rw [updC_ne (by omega),updC_ne (by omega)];exact ⟨(h.mv (t (by omega) hz)).1,set_keep (h.mv (t (by omega) hz)).2⟩,fun hz=>by rw [updC_ne (by omega),updC_ne (by omega)];exact ⟨(h.ex0 (t (by omega) hz)).1,set_keep (h.ex0 (t (by omega) hz)).2⟩,fun _=>by rw [updC_eq],fun hz=>by rw [updC_ne (by omega)];exact h.asg (t (by omega) hz),fun hz=>?_,fun hz=>?_,fun hz=>?_,h.keep,h.sz,h.bel⟩
 ·rw [updC_ne (by omega)];exact h.tup (t (by omega) hz)
 ·exact h.st0 (f (by omega) hz)
 ·rw [updC_ne (by omega)];exact ⟨(h.st1 (t (by omega) hz)).1,set_keep (h.st1 (t (by omega) hz)).2⟩
 ·rw [updC_ne (by omega)];exact h.lm (t (by omega) hz)
theorem RS.keepE(h:RS c w Z G T C0 k er ol Pl listed v W)(hc:∀u,Pl (c+7) u)  : RS c w Z G T C0 k er ol Pl (listed.setIfInBounds (c+7) true) (updC v (c+7) (.int .i64 er)) W:=by
 have t:∀{m},m≠(c+7)→(listed.setIfInBounds (c+7) true)[m]? = some true→listed[m]? = some true:=fun hj hz=>(set_at _ hz).resolve_left hj
 have f:∀{m},(c+7)≠m→(listed.setIfInBounds (c+7) true)[m]? = some false→listed[m]? = some false:=fun hj hz=>set_not hj hz
 have hp:=hc ((.int .i64 er))
 refine ⟨fun m hm=>by
  by_cases e:m=c+7
  ·rw [e,updC_eq];exact hp
  ·rw [updC_ne e];exact h.pl m (t e hm),fun hz=>?_,fun hz=>by rw [updC_ne (by omega),updC_ne (by omega)];exact ⟨(h.mv (t (by omega) hz)).1,set_keep (h.mv (t (by omega) hz)).2⟩,fun hz=>by rw [updC_ne (by omega),updC_ne (by omega)];exact ⟨(h.ex0 (t (by omega) hz)).1,set_keep (h.ex0 (t (by omega) hz)).2⟩,fun hz=>by rw [updC_ne (by omega)];exact h.ex1 (t (by omega) hz),fun _=>by rw [updC_eq],fun hz=>?_,fun hz=>?_,fun hz=>?_,h.keep,h.sz,h.bel⟩
 ·rw [updC_ne (by omega)];exact h.tup (t (by omega) hz)
 ·exact h.st0 (f (by omega) hz)
 ·rw [updC_ne (by omega)];exact ⟨(h.st1 (t (by omega) hz)).1,set_keep (h.st1 (t (by omega) hz)).2⟩
 ·rw [updC_ne (by omega)];exact h.lm (t (by omega) hz)
theorem RS.store(h:RS c w Z G T C0 k er ol Pl listed v W)(hc:∀u,Pl (c+6) u)(hl:listed[c+6]? = some false)(h2:listed[c+2]? = some true)(hGw:w.heap.size≤G)(hT:T≠179):RS c w Z G T C0 k er ol Pl (listed.setIfInBounds (c+6) true) (updC v (c+6) undef) (W.setCell ⟨G,k,none⟩ (tupA (v c))):=by
 have t:∀{m},m≠(c+6)→(listed.setIfInBounds (c+6) true)[m]? = some true→listed[m]? = some true:=fun hj hz=>(set_at _ hz).resolve_left hj
 have f:∀{m},(c+6)≠m→(listed.setIfInBounds (c+6) true)[m]? = some false→listed[m]? = some false:=fun hj hz=>set_not hj hz
 have hp:=hc undef
 have hB:=h.st0 hl
 refine ⟨fun m hm=>by
  by_cases e:m=c+6
  ·rw [e,updC_eq];exact hp
  ·rw [updC_ne e];exact h.pl m (t e hm),fun hz=>?_,fun hz=>by rw [updC_ne (by omega),updC_ne (by omega)];exact ⟨(h.mv (t (by omega) hz)).1,set_keep (h.mv (t (by omega) hz)).2⟩,fun hz=>by rw [updC_ne (by omega),updC_ne (by omega)];exact ⟨(h.ex0 (t (by omega) hz)).1,set_keep (h.ex0 (t (by omega) hz)).2⟩,fun hz=>by rw [updC_ne (by omega)];exact h.ex1 (t (by omega) hz),fun hz=>by rw [updC_ne (by omega)];exact h.asg (t (by omega) hz),fun hz=>?_,fun _=>⟨?_,set_keep h2⟩,fun hz=>?_,fun b h1 h2=>?_,?_,h.bel.setCell hGw _⟩
 ·rw [updC_ne (by omega)];exact h.tup (t (by omega) hz)
 ·rw [Array.getElem?_setIfInBounds_self_of_lt (Array.getElem?_eq_some_iff.1 hl).1] at hz;cases hz
 ·rw [updC_ne (by omega)];exact hB.set_ k _
 ·rw [updC_ne (by omega)]
  have h3:=h.lm (t (by omega) hz)
  unfold LmV at h3 ⊢
  cases ol with
  | none=>exact h3
  | some l=>exact ⟨h3.1,Blk.far h3.2.1 (blk_ne h3.2.1 hB (Ne.symm hT)) _,h3.2.2⟩
 ·rw [←h.keep b h1 h2]
  exact Below.heap_setCell W ⟨G,k,none⟩ _ b h2
 ·have:=h.sz
  simpa [World.setCell] using this
end
end Go.Proofs.YtpgckpafjiojfaaGreatDoor.AD
