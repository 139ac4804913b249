/- Contract of admit.New: the walk. -/
import Derived.Test.YtpgckpafjiojfaaGreatDoorAGl
import Derived.Deep.AppendLies
open Go.Lib (hid)
set_option maxRecDepth 16000
set_option maxHeartbeats 40000000
namespace Go.Proofs.YtpgckpafjiojfaaGreatDoor.AD
open Go Go.RowKit BW
open BK (Bx BoxAt Blk only_refl only_drew only_drewN only_setCell only_trans only_of_below only_alloc below_drewN)
theorem gnew_no(c:Cf)(L:JL)(w:World)(hA:CArg w c L)(hE:cfE c.g L≠0):Calls Tryz.prog 9 #[.agg (cfV c)] w fun e w'=>e=.returned (.tuple #[.pointer none,.int .i64 (cfE c.g L)])∧Below w.heap.size w w':=by
 have hB:=(Below.refl _ w).alloc (Nat.le_refl _) (.cells (cfV c) 31)
 have C0:=hid (ccaps_ok c L _ (hA.below hB))
 have HB:=hid hB
 generalize cpC c.g (cfE c.g L)=RC at *
 generalize cpL L (cfE c.g L)=RL at *
 generalize cfE c.g L=E at *
 rw [cfV_eq] at HB C0 ⊢
 have q1:(E==0)=false:=by rw [beq_eq_false_iff_ne];exact hE
 have q2:(E != 0)=true:=by rw [bne,q1];rfl
 clear hA hB hE
 obtain ⟨cg,ca,cn,cc⟩:=c
 simp only at *
 go_enter Tryz.func9,Tryz.ntmps9
 go_wp2_with fail
 refine (C0.out).mono ?_
 rintro e_ w2 ⟨v,rfl,-,hb⟩
 have HB2:=hid hb
 clear hb
 go_wp2_with fail
 go_ret2
 exact ⟨rfl,HB.out.trans (HB2.out.mono (by simp))⟩
def blkS:Value→Nat
 | .slice (some a) _ _=>a.block
 | _=>0
def capS:Value→Nat
 | .slice _ _ c=>c
 | _=>0
def P13(G li bo:Nat)(dv:Value)(n:Nat)(i:Nat)(v:Value):Prop:=match i with
 | 0=>v=.pointer (some ⟨G,0,none⟩)
 | 1=>v=.pointer (some ⟨G,0,none⟩)
 | 2=>v=.pointer (some ⟨G,0,none⟩)
 | 3=>v=.pointer (some ⟨G,3,none⟩)
 | 4=>v=dv
 | 5=>v=.agg #[.pointer (some ⟨li,0,none⟩),.pointer (some ⟨bo,0,none⟩)]
 | 6=>v=.slice (some ⟨blkS v,0,none⟩) 1 1
 | 7=>v=.slice (some ⟨blkS v,0,none⟩) n (capS v)
 | 8=>v=.pointer (some ⟨G,0,none⟩)
 | 9=>v=.pointer (some ⟨G,3,none⟩)
 | _=>True
def Grew(B:Nat)(Z:World)(dv v':Value)(n:Nat)(xs:List Value)(W:World):Prop:=∃X,Below Z.heap.size Z X∧X.grownBy W dv.ownBlock∧W.ownsRow B 125 2 v' n xs
structure R13(B:Nat)(Z:World)(G li bo:Nat)(dv:Value)(n:Nat)(xs:List Value)(listed:Array Bool)(v:Nat→Value)(W:World):Prop where
 all:∀i,listed[i]? = some true→P13 G li bo dv n i (v i)
 st:listed[7]? = some false→Below Z.heap.size Z W
 row:listed[6]? = some true→listed[7]? = some false→Blk W (blkS (v 6)) 125 #[.pointer (some ⟨li,0,none⟩),.pointer (some ⟨bo,0,none⟩)]
 ap:listed[7]? = some true→listed[10]? = some false→Grew B Z dv (v 7) n xs W
 fin:listed[10]? = some true→∃Y,W=Y.setCell ⟨G,3,none⟩ (v 7)∧Grew B Z dv (v 7) n xs Y
 o7:listed[7]? = some true→listed[4]? = some true∧listed[5]? = some true∧listed[6]? = some true
 o10:listed[10]? = some true→listed[7]? = some true
 o6:listed[6]? = some true→listed[5]? = some true
theorem R13.step{B:Nat}{Z:World}{G li bo:Nat}{dv:Value}{n:Nat}{xs:List Value}{listed:Array Bool}{v:Nat→Value}{W:World}(h:R13 B Z G li bo dv n xs listed v W){i:Nat}{u:Value}(h6:i≠6)(h7:i≠7)(h10:i≠10)(hp:P13 G li bo dv n i u):R13 B Z G li bo dv n xs (listed.setIfInBounds i true) (updC v i u) W:=by
 have t:∀{j},j≠i→(listed.setIfInBounds i true)[j]? = some true→listed[j]? = some true:=fun hj hz=>(set_at _ hz).resolve_left hj
 refine ⟨fun m hm=>?_,fun hz=>h.st (set_not h7 hz),fun hz hz2=>?_,fun hz hz2=>?_,fun hz=>?_,fun hz=>?_,fun hz=>set_keep (h.o10 (t (Ne.symm h10) hz)),fun hz=>set_keep (h.o6 (t (Ne.symm h6) hz))⟩
 ·by_cases e:m=i
  ·subst e;rw [updC_eq];exact hp
  ·rw [updC_ne e];exact h.all m (t e hm)
 ·rw [updC_ne (Ne.symm h6)];exact h.row (t (Ne.symm h6) hz) (set_not h7 hz2)
 ·rw [updC_ne (Ne.symm h7)];exact h.ap (t (Ne.symm h7) hz) (set_not h10 hz2)
 ·rw [updC_ne (Ne.symm h7)];exact h.fin (t (Ne.symm h10) hz)
 ·have:=h.o7 (t (Ne.symm h7) hz)
  exact ⟨set_keep this.1,set_keep this.2.1,set_keep this.2.2⟩
theorem R13.no7{B:Nat}{Z:World}{G li bo:Nat}{dv:Value}{n:Nat}{xs:List Value}{listed:Array Bool}{v:Nat→Value}{W:World}(h:R13 B Z G li bo dv n xs listed v W)(hs:listed.size=11)(hl:listed[4]? = some false∨listed[5]? = some false∨listed[6]? = some false):listed[7]? = some false:=by
 have h7:listed[7]? = some listed[7]:=Array.getElem?_eq_getElem (by omega)
 cases hv:listed[7] with
 | false=>rw [h7,hv]
 | true =>
  rw [hv] at h7
  have:=h.o7 h7
  rcases hl with e|e|e
  ·rw [this.1] at e;cases e
  ·rw [this.2.1] at e;cases e
  ·rw [this.2.2] at e;cases e
theorem door_news{W:World}{b:Nat}{p q:Value}(h:Blk W b 125 #[p,q]):∀(j:Nat) (u:Value),[p,q][j]? = some u→W.cell? ((⟨b,0,none⟩:Addr).add j)=some u:=fun j u hj=>by
 match j,hj with
 | 0,hj=>simp at hj;subst hj;exact h.cell 0
 | 1,hj=>simp at hj;subst hj;exact h.cell 1
 | j+2,hj=>simp at hj
theorem info_door:(Tryz.prog.info? 125).map (fun i=>(i.zero,i.size,i.bytes))=some (some (.agg #[.pointer none,.pointer none]),2,16):=by kernel_rfl
theorem grew_gate{w:World}{c:Cf}{L:JL}{cp lm G:Nat}{ev dv v':Value}{ps:List (Nat × Nat)}{Z W:World}{n:Nat}{xs:List Value}(h:NwI w c L cp lm G ev dv ps Z)(hg:Grew w.heap.size Z dv v' n xs W):Blk W G 118 #[.pointer (some ⟨cp,0,none⟩),.int .i64 c.g.cap,.pointer (some ⟨lm,0,none⟩),dv,ev,.int .i64 0]:=by
 obtain ⟨X,hb,hgr,-⟩:=hg
 have hX:=h.next hb
 exact (hgr.block _ hX.gate.lt (own_blk_ne hX.doors hX.gate (by decide))).trans hX.gate
theorem grew_push{w:World}{c:Cf}{L:JL}{cp lm G:Nat}{ev dv v':Value}{ps:List (Nat × Nat)}{V Z W:World}(h:NwI w c L cp lm G ev dv ps V)(hb:Below V.heap.size V Z){li bo:Nat}{x:Jb × List (Int × Int)}(hx:L[ps.length]? = some x)(h1:LmAt Z li (lm0 x.1.y.t x.1.y.tau))(h2:BoxAt Z bo (BK.fresh x.1.y.f x.1.y.o x.1.y.r))(hli:V.heap.size≤li)(hbo:V.heap.size≤bo)
 (hf:∃Y,W=Y.setCell ⟨G,3,none⟩ v'∧Grew w.heap.size Z dv v' (ps.length+1) (doorsC ps++doorC (li,bo)) Y):NwI w c L cp lm G ev v' (ps++[(li,bo)]) W:=by
 obtain ⟨Y,rfl,X,hbX,hgr,hown⟩:=hf
 exact h.push (hb.trans (hbX.mono hb.size)) hx (Blk.below h1 hbX (Blk.lt h1)) (Blk.below h2 hbX (Blk.lt h2)) hli hbo hown hgr
theorem limit_load{w:World}{b o:Nat}{t tau:Int}(h0:w.cell? ⟨b,o,none⟩=some (.int .i64 t))(h1:w.cell? ⟨b,o+1,none⟩=some (.int .i64 tau)):(loadVar 26 ⟨b,o,none⟩).run Tryz.prog w=.ok (.agg #[.int .i64 t,.int .i64 tau]) w :=
 run_loadVar_mid (P:=Tryz.prog) w b o 26 [.int .i64 t,.int .i64 tau] (.struct (Tryz.prog.fieldsOf 26)) (fun i v hv=>by
  match i,hv with
  | 0,hv=>simp at hv;subst hv;exact h0
  | 1,hv=>simp at hv;subst hv;exact h1
  | i+2,hv=>simp at hv) (by kernel_rfl) (by kernel_rfl) (by kernel_rfl)
theorem gnew_yes(c:Cf)(L:JL)(w:World)(hA:CArg w c L)(hC:CfOk c.g L):Calls Tryz.prog 9 #[.agg (cfV c)] w fun e w'=>∃Y:Ly,e=.returned (.tuple #[.pointer (some ⟨Y.g,0,none⟩),.int .i64 0])∧GAt w' Y (g0 c.g L)∧(∀i,Y.sup L.length i→w.heap.size≤i)∧Below w.heap.size w w':=by
 have hE:cfE c.g L=0:=cfE_zero.2 hC
 have hB:=(Below.refl _ w).alloc (Nat.le_refl _) (.cells (cfV c) 31)
 have C0:=ccaps_ok c L _ (hA.below hB)
 rw [hE] at C0
 have hcc:cpC c.g 0=c.g.cap:=if_pos rfl
 have hcl:cpL L 0=capsL L:=if_pos rfl
 rw [hcc,hcl] at C0
 have CC:=hid C0
 have HC:=hid hC
 have HA:=hid (fun W (hb:Below w.heap.size w W)=>hA.below hb)
 have hg:=glB_parts hC.gl
 have hcl2:(capsL L).length≤64:=by unfold capsL;rw [List.length_map];exact hC.many
 have CN:=hid (fun (a:Option Addr) (cap:Nat) W (h:RowI W w.heap.size a (capsL L))=>cpnew_ok c.g.cap (capsL L) a cap ⟨by omega,hg.1.2⟩ hcl2 (caps_in hC) W h)
 have LN:=hid (fun W=>lnew_ok hg.2 W)
 have HN:=hid hA.in_.n
 have H9:=hid hA.n9
 have HX:=hid (Blk.new w 31 (cfV c))
 have HB:=hid hB
 have hcv:=cfV_eq c
 rw [hcv] at CC HX HB ⊢
 have HCV:=hid hcv
 clear hA hB hC hE C0 hcc hcl hg hcl2 hcv
 generalize hes:capsL L=es at *
 have HES:=hid hes
 clear hes
 go_enter Tryz.func9,Tryz.ntmps9
 go_wp2_with fail
 refine (CC.out).mono ?_
 rintro e_ w2 ⟨v,rfl,ho,hb⟩
 have hx2:Blk w2 w.heap.size 31 (cfV c):=by rw [HCV.out];exact Blk.below HX.out hb HX.out.lt
 have HX2:=hid hx2
 have HB2:=hid (HB.out.trans (hb.mono (by simp)))
 have ho2:OwnsJ w.heap.size v es w2:=OwnsJ.mono ho (by simp)
 obtain ⟨ea,ec,rfl,hrow⟩:=rowI_of ho2
 have HO:=hid ho2
 have HW:=hid hrow
 clear hx2 ho ho2 hrow hb CC HX HB
 go_wp2_with fail
 obtain ⟨W3,hW3⟩:∃W3,W3=w2.alloc (.cells #[.pointer none,.int .i64 c.g.cap,.pointer none,.slice none 0 0,.slice ea es.length ec,.int .i64 0] 118):=⟨_,rfl⟩
 have h3:Below w2.heap.size w2 W3:=by rw [hW3];exact (Below.refl _ _).alloc (Nat.le_refl _) _
 have G3:=hid (show Blk W3 w2.heap.size 118 #[.pointer none,.int .i64 c.g.cap,.pointer none,.slice none 0 0,.slice ea es.length ec,.int .i64 0] by rw [hW3];exact Blk.new _ _ _)
 have X3:=hid (HX2.out.below h3 HX2.out.lt)
 have O3:=hid (show OwnsJ w.heap.size (.slice ea es.length ec) es W3 from own_below HO.out h3)
 have R3:=hid (HW.out.below h3)
 have B3:=hid (HB2.out.trans (h3.mono HB2.out.size))
 have hlow:w.heap.size≤w2.heap.size:=HB2.out.size
 rw [←hW3]
 generalize w2.heap.size=G at *
 clear hW3 h3 HX2 HB2 HO HW
 refine (CN.out ea ec W3 R3.out).mono ?_
 rintro e_ w4 ⟨rfl,hcp,hb4,hs4⟩
 have G4:=hid (G3.out.below hb4 G3.out.lt)
 have X4:=hid (X3.out.below hb4 X3.out.lt)
 have O4:=hid (show OwnsJ w.heap.size (.slice ea es.length ec) es w4 from own_below O3.out hb4)
 have B4:=hid (B3.out.trans (hb4.mono B3.out.size))
 have C4:=hid hcp
 have hlow2:w.heap.size≤W3.heap.size:=B3.out.size
 generalize W3.heap.size=cp at *
 clear hcp hb4 hs4 G3 X3 O3 R3 B3 CN
 have p0:w4.cell? ⟨G,0,none⟩=some (.pointer none):=G4.out.cell 0
 have f0:w4.frozen? ⟨G,0,none⟩=false:=G4.out.frozen 0
 go_upto_region 6 with fail
 obtain ⟨W5,hW5⟩:∃W5,W5=w4.setCell ⟨G,0,none⟩ (.pointer (some ⟨cp,0,none⟩)):=⟨_,rfl⟩
 have G5:Hid (Blk W5 G 118 #[.pointer (some ⟨cp,0,none⟩),.int .i64 c.g.cap,.pointer none,.slice none 0 0,.slice ea es.length ec,.int .i64 0]):=hid (by rw [hW5];exact G4.out.set_ 0 _)
 have X5:Hid (Blk W5 w.heap.size 31 (cfV c)):=hid (by rw [hW5];exact X4.out.far (blk_ne X4.out G4.out (by decide)) _)
 have O5:Hid (OwnsJ w.heap.size (.slice ea es.length ec) es W5):=hid (by rw [hW5];exact own_set O4.out G4.out (by decide) _ _)
 have B5:Hid (Below w.heap.size w W5):=hid (by rw [hW5];exact B4.out.setCell hlow _)
 have C5:Hid (CpAt W5 cp (cp0 c.g.cap es)):=hid (by rw [hW5];exact Blk.far C4.out (blk_ne C4.out G4.out (by decide)) _)
 rw [←hW5]
 clear hW5 G4 X4 O4 B4 C4 p0 f0
 have k5:W5.cell? ⟨w.heap.size,5,none⟩=some (.int .i64 c.g.t):=X5.out.cell 5
 have k6:W5.cell? ⟨w.heap.size,6,none⟩=some (.int .i64 c.g.tau):=X5.out.cell 6
 go_wp2_with fail
 refine (LN.out _).mono ?_
 rintro e_ w6 ⟨lm,rfl,hlm,hb6,hl1,hl2⟩
 have G6:=hid (G5.out.below hb6 G5.out.lt)
 have X6:=hid (X5.out.below hb6 X5.out.lt)
 have O6:=hid (show OwnsJ w.heap.size (.slice ea es.length ec) es w6 from own_below O5.out hb6)
 have B6:=hid (B5.out.trans (hb6.mono B5.out.size))
 have C6:=hid (show CpAt w6 cp (cp0 c.g.cap es) from Blk.below C5.out hb6 (Blk.lt C5.out))
 have L6:=hid hlm
 have hlow3:w.heap.size≤lm:=by have:=B5.out.size;omega
 clear hlm hb6 hl1 hl2 k5 k6 G5 X5 O5 B5 C5
 have p2:w6.cell? ⟨G,2,none⟩=some (.pointer none):=G6.out.cell 2
 have f2:w6.frozen? ⟨G,2,none⟩=false:=G6.out.frozen 2
 go_upto_region 7 with fail
 obtain ⟨W7,hW7⟩:∃W7,W7=w6.setCell ⟨G,2,none⟩ (.pointer (some ⟨lm,0,none⟩)):=⟨_,rfl⟩
 have I7:Hid (NwI w c L cp lm G (.slice ea es.length ec) (.slice none 0 0) [] W7):=hid (by
  rw [hW7]
  refine ⟨X6.out.far (blk_ne X6.out G6.out (by decide)) _,G6.out.set_ 2 _,?_,?_,⟨rfl,.inl ⟨rfl,rfl⟩⟩,?_,fun k q x hk=>by simp at hk,⟨hlow,hlow2,hlow3,fun q hq=>by simp at hq⟩,fun k q hk=>by simp at hk,B6.out.setCell hlow _,Nat.zero_le _⟩
  ·rw [HES.out];exact Blk.far C6.out (blk_ne C6.out G6.out (by decide)) _
  ·exact Blk.far L6.out (blk_ne L6.out G6.out (by decide)) _
  ·rw [HES.out];exact own_set O6.out G6.out (by decide) _ _)
 rw [←hW7]
 have k7:W7.cell? ⟨w.heap.size,7,none⟩=some (.slice c.a c.n c.c):=I7.out.box.cell 7
 clear hW7 G6 X6 O6 B6 C6 L6 p2 f2 hlow hlow2 hlow3
 go_wp2_with fail
 go_loopw [46] (fun s46 wr=>∃k:Nat,k≤c.n∧s46=.int .i64 k∧∃dv ps,ps.length=k∧NwI w c L cp lm G (.slice ea es.length ec) dv ps wr) (fun s46 _=>c.n - intJ s46)
 case atStart=>exact ⟨0,Nat.zero_le _,rfl,_,[],rfl,I7.out⟩
 case round =>
  obtain ⟨k,hk,rfl,dv,ps,hps,hI⟩:=hrel
  have HI:=hid hI
  clear hI I7 k7
  rcases Nat.lt_or_ge k c.n with hlt|hge
  ·obtain ⟨⟨j,l⟩,hjl⟩:∃x,L[k]? = some x:=⟨_,List.getElem?_eq_getElem (by have:=HN.out;omega)⟩
   have hav:=HA.out wr HI.out.below
   obtain ⟨b,off,hca,hcl,-⟩:=hav.in_.at_ k (List.getElem?_eq_some_iff.1 hjl).1
   rw [(List.getElem?_eq_some_iff.1 hjl).2] at hcl
   have HJL:=hid hjl
   have HPS:=hid hps
   have hok:=okJ_parts (by have:=HC.out.all k (List.getElem?_eq_some_iff.1 hjl).1;rwa [(List.getElem?_eq_some_iff.1 hjl).2] at this)
   have HOK:=hid hok
   have LJ:=hid (jb_load hcl)
   have ST:=hid (jb_store wr j)
   rw [hca]
   have hn9:c.n≤200:=H9.out
   have hml1:k+1≤maxLen:=by unfold maxLen;omega
   have hml2:(k+1)*16≤140737488355328:=by omega
   clear hcl hav hjl hca hps hok
   go_upto_region 11 with (first|(refine wpList_load_by rfl 57 _ rfl b (off+k*30) (.agg (jbV j)) rfl LJ.out ?_)|(refine wpList_store_by rfl 57 _ _ rfl wr.heap.size 0 (.agg (jbV j)) _ rfl rfl ST.out ?_))
   obtain ⟨W1,hW1⟩:∃W1,W1=(wr.alloc (.cells (jbV j) 57)).alloc (.cells #[.pointer none,.pointer none] 125):=⟨_,rfl⟩
   have hs1:wr.heap.size+1<W1.heap.size:=by rw [hW1];simp
   have J1:Hid (Blk W1 wr.heap.size 57 (jbV j)):=hid (by rw [hW1];exact (Blk.new wr _ _).alloc _)
   have D1:Hid (Blk W1 (wr.heap.size+1) 125 #[.pointer none,.pointer none]):=hid (by rw [hW1];exact blk_newAt (by simp))
   have B1:Hid (Below wr.heap.size wr W1):=hid (by rw [hW1];exact two_boxes wr _ _)
   rw [←hW1]
   clear hW1 LJ ST
   have q21:W1.cell? ⟨wr.heap.size,21,none⟩=some (.int .i64 j.y.t):=J1.out.cell 21
   have q22:W1.cell? ⟨wr.heap.size,22,none⟩=some (.int .i64 j.y.tau):=J1.out.cell 22
   go_wp2_with fail
   refine (lnew_ok HOK.out.2.1 W1).mono ?_
   rintro e_ w2 ⟨li,rfl,hlm,hb2,hl1,hl2⟩
   have J2:=hid (J1.out.below hb2 J1.out.lt)
   have D2:=hid (D1.out.below hb2 D1.out.lt)
   have B2:=hid (B1.out.trans (hb2.mono B1.out.size))
   have L2:=hid hlm
   have hli2:wr.heap.size≤li:=by omega
   clear hlm hb2 hl1 q21 q22 J1 D1 B1 hs1
   have p0:w2.cell? ⟨wr.heap.size+1,0,none⟩=some (.pointer none):=D2.out.cell 0
   have f0:w2.frozen? ⟨wr.heap.size+1,0,none⟩=false:=D2.out.frozen 0
   go_upto_region 12 with fail
   obtain ⟨W3,hW3⟩:∃W3,W3=w2.setCell ⟨wr.heap.size+1,0,none⟩ (.pointer (some ⟨li,0,none⟩)):=⟨_,rfl⟩
   have D3:Hid (Blk W3 (wr.heap.size+1) 125 #[.pointer (some ⟨li,0,none⟩),.pointer none]):=hid (by rw [hW3];exact D2.out.set_ 0 _)
   have J3:Hid (Blk W3 wr.heap.size 57 (jbV j)):=hid (by rw [hW3];exact J2.out.far (blk_ne J2.out D2.out (by decide)) _)
   have B3:Hid (Below wr.heap.size wr W3):=hid (by rw [hW3];exact B2.out.setCell (Nat.le_succ _) _)
   have L3:Hid (LmAt W3 li (lm0 j.y.t j.y.tau)):=hid (by rw [hW3];exact Blk.far L2.out (blk_ne L2.out D2.out (by decide)) _)
   rw [←hW3]
   clear hW3 J2 D2 B2 L2 p0 f0 hl2
   have q23:W3.cell? ⟨wr.heap.size,23,none⟩=some (.int .i64 j.y.f):=J3.out.cell 23
   have q24:W3.cell? ⟨wr.heap.size,24,none⟩=some (.int .i64 j.y.o):=J3.out.cell 24
   have q25:W3.cell? ⟨wr.heap.size,25,none⟩=some (.int .i64 j.y.r):=J3.out.cell 25
   go_wp2_with fail
   refine (BK.new_yes HOK.out.2.2).mono ?_
   rintro e_ w4 ⟨bo,rfl,hbx,hb4,hl1⟩
   have D4:=hid (D3.out.below hb4 D3.out.lt)
   have B4:=hid (B3.out.trans (hb4.mono B3.out.size))
   have L4:=hid (show LmAt w4 li (lm0 j.y.t j.y.tau) from Blk.below L3.out hb4 (Blk.lt L3.out))
   have X4:=hid hbx
   have hbo2:wr.heap.size≤bo:=by have:=B3.out.size;omega
   clear hbx hb4 hl1 q23 q24 q25 J3 D3 B3 L3
   have p1:w4.cell? ⟨wr.heap.size+1,1,none⟩=some (.pointer none):=D4.out.cell 1
   have f1:w4.frozen? ⟨wr.heap.size+1,1,none⟩=false:=D4.out.frozen 1
   go_upto_region 13 with fail
   obtain ⟨W5,hW5⟩:∃W5,W5=w4.setCell ⟨wr.heap.size+1,1,none⟩ (.pointer (some ⟨bo,0,none⟩)):=⟨_,rfl⟩
   have D5:Hid (Blk W5 (wr.heap.size+1) 125 #[.pointer (some ⟨li,0,none⟩),.pointer (some ⟨bo,0,none⟩)]):=hid (by rw [hW5];exact D4.out.set_ 1 _)
   have B5:Hid (Below wr.heap.size wr W5):=hid (by rw [hW5];exact B4.out.setCell (Nat.le_succ _) _)
   have L5:Hid (LmAt W5 li (lm0 j.y.t j.y.tau)):=hid (by rw [hW5];exact Blk.far L4.out (blk_ne L4.out D4.out (by decide)) _)
   have X5:Hid (BoxAt W5 bo (BK.fresh j.y.f j.y.o j.y.r)):=hid (by rw [hW5];exact Blk.far X4.out (blk_ne X4.out D4.out (by decide)) _)
   have I5:=hid (HI.out.next B5.out)
   rw [←hW5]
   clear hW5 D4 B4 L4 X4 p1 f1
   generalize hs1:wr.heap.size+1=s1 at *
   obtain ⟨i0,hi0,hz0,hz1,hz2⟩:=info_parts info_door
   have H56:Hid (∀listed:Array Bool,∀{v:Nat→Value} {wx:World},R13 w.heap.size W5 G li bo dv (k+1) (doorsC ps++doorC (li,bo)) listed v wx→listed[6]? = some true→listed[5]? = some true):=hid (fun listed v wx h hh=>h.o6 hh)
   refine wp_region_put (R:=R13 w.heap.size W5 G li bo dv (k+1) (doorsC ps++doorC (li,bo))) (by kernel_rfl) (by kernel_rfl) (by kernel_rfl) (by kernel_rfl) ?_ ?_ ?_
   ·intro v
    exact ⟨fun i hi=>(rep_not hi).elim,fun _=>(Below.refl _ _).drew,fun hz=>(rep_not hz).elim,fun hz=>(rep_not hz).elim,fun hz=>(rep_not hz).elim,fun hz=>(rep_not hz).elim,fun hz=>(rep_not hz).elim,fun hz=>(rep_not hz).elim⟩
   ·intro Q' K listed v wx i o hsz ho hli ha hR hK
    have HV:=hid hR
    have HSZ:=hid (show listed.size=11 from hsz)
    have dep:=fun d hd=>hR.all d (dep_listed ha d hd)
    have hi:i<11:=(List.getElem?_eq_some_iff.1 ho).1
    clear hR hsz
    obtain rfl|rfl|rfl|rfl|rfl|rfl|rfl|rfl|rfl|rfl|rfl:i=0∨i=1∨i=2∨i=3∨i=4∨i=5∨i=6∨i=7∨i=8∨i=9∨i=10:=by omega
    ·-- operation 0
     cases ho
     simp only [pq] at hK ⊢
     go_simp
     exact hK _ _ (HV.out.step (by decide) (by decide) (by decide) rfl)
    ·-- operation 1
     cases ho
     simp only [pq] at hK ⊢
     go_simp
     exact hK _ _ (HV.out.step (by decide) (by decide) (by decide) rfl)
    ·-- operation 2
     cases ho
     have h1:v 1=_:=dep 1 (by kernel_rfl)
     simp only [pq,h1] at hK ⊢
     go_simp
     exact hK _ _ (HV.out.step (by decide) (by decide) (by decide) rfl)
    ·-- operation 3
     cases ho
     have h2:v 2=_:=dep 2 (by kernel_rfl)
     simp only [pq,h2] at hK ⊢
     go_simp
     exact hK _ _ (HV.out.step (by decide) (by decide) (by decide) rfl)
    ·-- operation 4
     cases ho
     have h3:v 3=_:=dep 3 (by kernel_rfl)
     have hst:=HV.out.st (HV.out.no7 HSZ.out (.inl hli))
     have c3:wx.cell? ⟨G,3,none⟩=some dv:=(I5.out.next hst).gate.cell 3
     clear hst
     simp only [pq,h3] at hK ⊢
     go_simp
     exact hK _ _ (HV.out.step (by decide) (by decide) (by decide) rfl)
    ·-- operation 5
     cases ho
     have hst:=HV.out.st (HV.out.no7 HSZ.out (.inr (.inl hli)))
     have d0:wx.cell? ⟨s1,0,none⟩=some (.pointer (some ⟨li,0,none⟩)):=(D5.out.below hst D5.out.lt).cell 0
     have d1:wx.cell? ⟨s1,1,none⟩=some (.pointer (some ⟨bo,0,none⟩)):=(D5.out.below hst D5.out.lt).cell 1
     clear hst
     simp only [pq] at hK ⊢
     go_simp
     exact hK _ _ (HV.out.step (by decide) (by decide) (by decide) rfl)
    ·-- operation 6
     cases ho
     have h5:v 5=_:=dep 5 (by kernel_rfl)
     simp only [pq,h5] at hK ⊢
     go_simp
     refine hK _ _ ?_
     have h7:=HV.out.no7 HSZ.out (.inr (.inr hli))
     have hba:Below wx.heap.size wx (wx.alloc (.cells #[.pointer (some ⟨li,0,none⟩),.pointer (some ⟨bo,0,none⟩)] 125)):=(Below.refl _ _).alloc (Nat.le_refl _) _
     have hst:=HV.out.st h7
     have no7:∀{b:Bool},(listed.setIfInBounds 6 true)[7]? = some b→b=false:=fun hz=>by rw [Array.getElem?_setIfInBounds_ne (by decide),h7] at hz;injection hz with hz;exact hz.symm
     refine ⟨fun m hm=>?_,fun _=>hst.trans (hba.mono hst.size),fun _ _=>by rw [updC_eq];exact Blk.new _ _ _,fun hz=>(by cases no7 hz),fun hz=>?_,fun hz=>(by cases no7 hz),fun hz=>set_keep (HV.out.o10 ((set_at 10 hz).resolve_left (by decide))),fun _=>set_keep (dep_listed ha 5 (by kernel_rfl))⟩
     ·by_cases e:m=6
      ·subst e;rw [updC_eq];rfl
      ·rw [updC_ne e];exact HV.out.all m ((set_at m hm).resolve_left e)
     ·have:=HV.out.o10 ((set_at 10 hz).resolve_left (by decide))
      rw [h7] at this;cases this
    ·-- operation 7
     cases ho
     have h4:v 4=_:=dep 4 (by kernel_rfl)
     have h6:v 6=.slice (some ⟨blkS (v 6),0,none⟩) 1 1:=dep 6 (by kernel_rfl)
     have hrow:=HV.out.row (dep_listed ha 6 (by kernel_rfl)) hli
     have hst:=HV.out.st hli
     have H6:=hid h6
     have HRW:=hid hrow
     have HST:=hid hst
     generalize blkS (v 6)=r6 at h6 hrow
     have hnew:=door_news hrow
     have hown:=own_below I5.out.doors hst
     rw [HPS.out] at hown
     have hbs:w.heap.size≤wx.heap.size:=Nat.le_trans I5.out.below.size hst.size
     clear hrow hst
     simp only [pq,h4,h6] at hK ⊢
     refine wp_append_lies _ _ _ _ rfl w.heap.size 125 i0 (.agg #[.pointer none,.pointer none]) 2 16 Tryz.underlying116 hi0 hz0 hz1 hz2 rfl (by decide) dv k (doorsC ps) rfl hown ⟨r6,0,none⟩ 1 1 [.pointer (some ⟨li,0,none⟩),.pointer (some ⟨bo,0,none⟩)] rfl rfl hnew (by simp [Value.oneCell']) (by decide) hml1 hml2 hbs _ rfl ?_
     intro g8 cap8 w8 hown8 hgrow8 _ _
     refine hK _ _ ?_
     refine ⟨fun m hm=>?_,fun hz=>?_,fun _ hz=>?_,fun _ _=>by rw [updC_eq];exact ⟨wx,HST.out,hgrow8,hown8⟩,fun hz=>?_,fun _=>⟨set_keep (dep_listed ha 4 (by kernel_rfl)),?_,set_keep (dep_listed ha 6 (by kernel_rfl))⟩,fun _=>by rw [Array.getElem?_setIfInBounds_self_of_lt (Array.getElem?_eq_some_iff.1 hli).1],fun hz=>set_keep (HV.out.o6 ((set_at 6 hz).resolve_left (by decide)))⟩
     ·by_cases e:m=7
      ·subst e;rw [updC_eq];rfl
      ·rw [updC_ne e];exact HV.out.all m ((set_at m hm).resolve_left e)
     ·rw [Array.getElem?_setIfInBounds_self_of_lt (Array.getElem?_eq_some_iff.1 hli).1] at hz;cases hz
     ·rw [Array.getElem?_setIfInBounds_self_of_lt (Array.getElem?_eq_some_iff.1 hli).1] at hz;cases hz
     ·have:=HV.out.o10 ((set_at 10 hz).resolve_left (by decide))
      rw [hli] at this;cases this
     ·exact set_keep (H56.out listed HV.out (dep_listed ha 6 (by kernel_rfl)))
    ·-- operation 8
     cases ho
     have h0:v 0=_:=dep 0 (by kernel_rfl)
     simp only [pq,h0] at hK ⊢
     go_simp
     exact hK _ _ (HV.out.step (by decide) (by decide) (by decide) rfl)
    ·-- operation 9
     cases ho
     have h8:v 8=_:=dep 8 (by kernel_rfl)
     simp only [pq,h8] at hK ⊢
     go_simp
     exact hK _ _ (HV.out.step (by decide) (by decide) (by decide) rfl)
    ·-- operation 10
     cases ho
     have h7:v 7=.slice (some ⟨blkS (v 7),0,none⟩) (k+1) (capS (v 7)):=dep 7 (by kernel_rfl)
     generalize blkS (v 7)=r7 at h7
     generalize capS (v 7)=q7 at h7
     have h9:v 9=_:=dep 9 (by kernel_rfl)
     have hA:=HV.out.ap (dep_listed ha 7 (by kernel_rfl)) hli
     have hgt:=grew_gate I5.out hA
     have HAA:=hid hA
     have c3:wx.cell? ⟨G,3,none⟩=some dv:=hgt.cell 3
     have f3:wx.frozen? ⟨G,3,none⟩=false:=hgt.frozen 3
     clear hgt hA
     simp only [pq,h9,h7] at hK ⊢
     go_simp
     refine hK undef _ ?_
     refine ⟨fun m hm=>?_,fun hz=>?_,fun _ hz=>?_,fun _ hz=>?_,fun _=>⟨wx,by rw [updC_ne (by decide),h7],by rw [updC_ne (by decide)];exact HAA.out⟩,fun _=>?_,fun _=>set_keep (dep_listed ha 7 (by kernel_rfl)),fun hz=>set_keep (HV.out.o6 ((set_at 6 hz).resolve_left (by decide)))⟩
     ·by_cases e:m=10
      ·subst e;trivial
      ·rw [updC_ne e];exact HV.out.all m ((set_at m hm).resolve_left e)
     ·have:=dep_listed ha 7 (by kernel_rfl);rw [set_not (by decide) hz] at this;cases this
     ·have:=dep_listed ha 7 (by kernel_rfl);rw [set_not (by decide) hz] at this;cases this
     ·rw [Array.getElem?_setIfInBounds_self_of_lt (Array.getElem?_eq_some_iff.1 hli).1] at hz;cases hz
     ·have:=HV.out.o7 (dep_listed ha 7 (by kernel_rfl));exact ⟨set_keep this.1,set_keep this.2.1,set_keep this.2.2⟩
   ·intro v listed w9 hall hR
    have hf:=hR.fin (hall 10 (by decide))
    have HP:Hid (NwI w c L cp lm G (.slice ea es.length ec) (v 7) (ps++[(li,bo)]) w9):=hid (grew_push HI.out B5.out (by rw [HPS.out];exact HJL.out) L5.out X5.out hli2 hbo2 (by rw [HPS.out];exact hf))
    clear hf hR hall
    simp only [pq]
    go_wp2_with fail
    refine ⟨⟨k+1,by omega,by go_num,_,_,by rw [List.length_append,HPS.out];rfl,HP.out⟩,?_⟩
    simp [intJ];omega
  ·obtain rfl:c.n=k:=by omega
   obtain ⟨Y,hY,hY2,hY3⟩:=HI.out.fin (by rw [hps];exact HN.out.symm) HC.out
   have HY:=hid (And.intro hY2 hY3)
   subst hY
   have HBB:=hid HI.out.below
   clear hY2 hY3 HI
   go_wp2_with fail
   go_ret2
   exact ⟨Y,rfl,HY.out.1,HY.out.2,HBB.out⟩
end Go.Proofs.YtpgckpafjiojfaaGreatDoor.AD
