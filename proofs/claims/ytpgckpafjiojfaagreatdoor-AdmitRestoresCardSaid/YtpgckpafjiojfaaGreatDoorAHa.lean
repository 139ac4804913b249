/- A gate of the call's own, the example of the chapter, and wakemanlaw35.works. -/
import Derived.Test.YtpgckpafjiojfaaGreatDoorAGm
open Go.Lib (hid)
set_option maxRecDepth 16000
set_option maxHeartbeats 40000000
namespace Go.Proofs.YtpgckpafjiojfaaGreatDoor.AD
open Go Go.RowKit BW
open BK (Bx BoxAt Blk only_refl only_drew only_drewN only_setCell only_trans only_of_below only_alloc below_drewN)
section
variable{x:Gt}{job now:Int}{ok:Bool}
theorem Gt.take_len:(x.take job now).2.js.length=x.js.length:=by
 unfold Gt.take
 split
 ·rfl
 ·split
  ·split
   ·rfl
   ·unfold Gt.took;simp
  ·rfl
theorem Gt.give_len:(x.give job ok now).2.2.js.length=x.js.length:=by
 unfold Gt.give
 split
 ·rfl
 ·split
  ·split
   ·rfl
   ·simp
  ·rfl
end
def Keeps(w w':World):Prop:=∀(b:Nat) (t:TypeId) (cs:Array Value),Blk w b t cs→t≠118→t≠174→t≠179→t≠182→Blk w' b t cs
theorem GAt.keeps{w w':World}{L:Ly}{x:Gt}(h:GAt w L x)(ht:Turn (L.own x.js.length) w w'):Keeps w w':=fun b t cs hb n1 n2 n3 n4=>by
 refine (ht.block b hb.lt ?_).trans hb
 rintro (rfl|rfl|rfl|⟨k,hk,hi⟩)
 ·exact blk_ne hb h.gate n1 rfl
 ·exact blk_ne hb h.caps n2 rfl
 ·exact blk_ne hb h.lm n3 rfl
 ·obtain ⟨h1,h2⟩:=h.job k _ (List.getElem?_eq_getElem hk)
  rcases hi with rfl|rfl
  ·exact blk_ne hb h1 n3 rfl
  ·exact blk_ne hb h2 n4 rfl
theorem keeps_below{w w':World}(hb:Below w.heap.size w w'):Keeps w w':=fun _ _ _ h _ _ _ _=>h.below hb h.lt
structure GHas(B:Nat)(w0 w:World)(L:Ly)(x:Gt):Prop where
 g:GAt w L x
 bel:Below B w0 w
 own:∀i,L.own x.js.length i→B≤i
 le:B≤w0.heap.size
section
variable{B:Nat}{w0 w w':World}{L:Ly}{x y:Gt}
theorem GHas.step(H:GHas B w0 w L x)(h:GAt w' L y)(ht:Turn (L.own x.js.length) w w')(hn:y.js.length=x.js.length):GHas B w0 w' L y :=
 ⟨h,ht.below H.own H.bel H.le,by rw [hn];exact H.own,H.le⟩
theorem GHas.below(H:GHas B w0 w L x)(hb:Below w.heap.size w w'):GHas B w0 w' L x:=⟨H.g.below hb,H.bel.trans (hb.mono (Nat.le_trans H.le H.bel.size)),H.own,H.le⟩
theorem gh_take(H:GHas B w0 w L x)(job now:Int){er:Int}(he:x.take job now=(er,y)):Calls Tryz.prog 13 #[.pointer (some ⟨L.g,0,none⟩),.int .i64 job,.int .i64 now] w fun e w'=>e=.returned (.int .i64 er)∧GHas B w0 w' L y∧Keeps w w' :=
 (gtake_ok H.g job now).mono fun e w' ⟨h1,h2,h3⟩=>by
  have hl:=Gt.take_len (x:=x) (job:=job) (now:=now)
  rw [he] at h1 h2 hl
  exact ⟨h1,H.step h2 h3 hl,H.g.keeps h3⟩
theorem gh_give(H:GHas B w0 w L x)(job:Int)(ok:Bool)(now:Int){ev er:Int}(he:x.give job ok now=(ev,er,y)):Calls Tryz.prog 10 #[.pointer (some ⟨L.g,0,none⟩),.int .i64 job,.bool ok,.int .i64 now] w fun e w'=>e=.returned (.tuple #[.int .i64 ev,.int .i64 er])∧GHas B w0 w' L y∧Keeps w w' :=
 (ggive_ok H.g job ok now).mono fun e w' ⟨h1,h2,h3⟩=>by
  have hl:=Gt.give_len (x:=x) (job:=job) (now:=now) (ok:=ok)
  rw [he] at h1 h2 hl
  exact ⟨h1,H.step h2 h3 hl,H.g.keeps h3⟩
theorem gh_why(H:GHas B w0 w L x)(job now:Int){n er:Int}(he:x.Why job now=(n,er)):Calls Tryz.prog 19 #[.pointer (some ⟨L.g,0,none⟩),.int .i64 job,.int .i64 now] w fun e w'=>e=.returned (.tuple #[.int .i64 n,.int .i64 er])∧GHas B w0 w' L x∧Keeps w w' :=
 (gwhy_ok H.g job now).mono fun e w' ⟨h1,h2⟩=>by rw [he] at h1;exact ⟨h1,H.below h2,keeps_below h2⟩
theorem gh_next(H:GHas B w0 w L x)(job now:Int){t:Int}{is:Bool}{er:Int}(he:x.next job now=(t,is,er)):Calls Tryz.prog 20 #[.pointer (some ⟨L.g,0,none⟩),.int .i64 job,.int .i64 now] w fun e w'=>e=.returned (.tuple #[.int .i64 t,.bool is,.int .i64 er])∧GHas B w0 w' L x∧Keeps w w' :=
 (gnext_ok H.g job now).mono fun e w' ⟨h1,h2⟩=>by rw [he] at h1;exact ⟨h1,H.below h2,keeps_below h2⟩
theorem gh_until(H:GHas B w0 w L x)(job:Int){t:Int}{op:Bool}(he:x.until job=(t,op)):Calls Tryz.prog 21 #[.pointer (some ⟨L.g,0,none⟩),.int .i64 job] w fun e w'=>e=.returned (.tuple #[.int .i64 t,.bool op])∧GHas B w0 w' L x∧Keeps w w' :=
 (guntil_ok H.g job).mono fun e w' ⟨h1,h2⟩=>by subst h2;rw [he] at h1;exact ⟨h1,H,keeps_below (Below.refl _ _)⟩
end
theorem jobs_all{w:World}{E:Nat}{cs:Array Value}{L:JL}(hE:Blk w E 57 cs)(hc:cs.toList=L.flatMap (fun x=>(jbV x.1).toList))(h:∀x∈L,PIn w x.1.p x.2):JobsAt w (some ⟨E,0,none⟩) L:=fun k hk=>by
 refine ⟨E,0,rfl,fun i hi=>?_,h _ (List.getElem_mem hk)⟩
 rw [Nat.zero_add,hE.cell,←Array.getElem?_toList,hc]
 clear hc hE h cs
 induction L generalizing k with
 | nil=>simp at hk
 | cons x L ih =>
  have h30:(jbV x.1).toList.length=30:=rfl
  rw [List.flatMap_cons]
  cases k with
  | zero =>
   rw [Nat.zero_mul,Nat.zero_add,List.getElem?_append_left (by rw [h30];exact hi)]
   show (jbV x.1).toList[i]? = (jbV x.1)[i]?
   exact Array.getElem?_toList
  | succ k =>
   rw [List.getElem?_append_right (by rw [h30];omega),h30,show (k+1)*30+i - 30=k*30+i by omega]
   exact ih k (by simpa using hk)
theorem pin0{w:World}{p:Pl}(hx:U64s p.x)(hn:p.n=0):PIn w p []:=⟨hx,hn.symm,fun k hk=>by simp at hk⟩
def polE(n f o r:Int):Po:=⟨n,0,0,0,0,0,0,0,f,o,r,0,0,0,0⟩
def plE0:Pl:=⟨0,⟨0,0,0,0,0,0,false,false⟩,0,⟨0,0,0⟩,none,0,0⟩
def eG:Gl:=⟨2,5,5,60,0,5,5⟩
def eA:Jb:=⟨⟨#[97]⟩,plE0,polE 1 1 10 1⟩
def eB:Jb:=⟨⟨#[98]⟩,plE0,polE 2 0 0 0⟩
def eL:JL:=[(eA,[]),(eB,[])]
def eC(b:Nat):Cf:=⟨eG,some ⟨b,0,none⟩,2,2⟩
def eCells:Array Value:=#[.string ⟨#[97]⟩,.int .i64 0,.int .u64 0,.int .u64 0,.int .u64 0,.int .u64 0,.int .u64 0,.int .u64 0,.bool false,.bool false,.int .i64 0,.int .i64 0,.int .i64 0,.int .i64 0,.slice none 0 0,.int .i64 1,.int .i64 0,.int .i64 0,.int .i64 0,.int .i64 0,.int .i64 0,.int .i64 0,.int .i64 0,.int .i64 1,.int .i64 10,.int .i64 1,.int .i64 0,.int .i64 0,.int .i64 0,.int .i64 0,.string ⟨#[98]⟩,.int .i64 0,.int .u64 0,.int .u64 0,.int .u64 0,.int .u64 0,.int .u64 0,.int .u64 0,.bool false,.bool false,.int .i64 0,.int .i64 0,.int .i64 0,.int .i64 0,.slice none 0 0,.int .i64 2,.int .i64 0,.int .i64 0,.int .i64 0,.int .i64 0,.int .i64 0,.int .i64 0,.int .i64 0,.int .i64 0,.int .i64 0,.int .i64 0,.int .i64 0,.int .i64 0,.int .i64 0,.int .i64 0]
theorem example_ok(w:World):Calls Tryz.prog 54 #[] w fun e w'=>∃b,e=.returned (.agg (cfV (eC b)))∧(Blk w' b 57 eCells∧w.heap.size≤b)∧Below w.heap.size w w':=by
 go_enter Tryz.func54,Tryz.ntmps54
 go_wp2_with fail
 refine bodyPost_ret (results_cell_row rfl _ _ w.heap.size _ _ (0,0) _ rfl ((Blk.new w _ _).alloc _) Tryz.underlying31 rfl (by kernel_rfl)) rfl ?_
 exact ⟨w.heap.size+1,rfl,⟨blk_newAt (by simp),Nat.le_succ _⟩,two_boxes w _ _⟩
theorem u64_zero:U64s plE0.x:=by constructor<;>exact (show (0:Nat)<18446744073709551616 by decide)
theorem e_jobs{w:World}{g:Nat}(h:Blk w g 57 eCells):JobsAt w (some ⟨g,0,none⟩) eL :=
 jobs_all h rfl (fun x hx=>by
  unfold eL at hx
  simp only [List.mem_cons,List.not_mem_nil,or_false] at hx
  rcases hx with rfl|rfl<;>exact pin0 u64_zero rfl)
theorem e_arg{w:World}{g:Nat}(h:Blk w g 57 eCells)(h1:SpTab w)(h2:Tab w):CArg w (eC g) eL :=
 ⟨⟨rfl,e_jobs h,(show (0:Nat)<18446744073709551616 by decide)⟩,(show (2:Nat)≤200 by decide),fun k hk=>by
  have:k=0∨k=1:=by simp [eL] at hk;omega
  rcases this with rfl|rfl<;>exact Nat.zero_le _,h1,h2⟩
theorem e_ok:CfOk eG eL where
 gl:=by decide +kernel
 many:=by decide
 nms:=fun k hk=>by
  have:k=0∨k=1:=by simp [eL] at hk;omega
  rcases this with rfl|rfl
  ·exact (show nameB eA.nm=true by decide +kernel)
  ·exact (show nameB eB.nm=true by decide +kernel)
 new:=fun i hi k hk _ hki=>by
  have:i=0∨i=1:=by simp [eL] at hi;omega
  obtain ⟨rfl,rfl⟩:i=1∧k=0:=by omega
  intro h
  have h':eA.nm=eB.nm:=h
  have:=congrArg ByteArray.data h'
  simp [eA,eB] at this
 all:=fun k hk=>by
  have:k=0∨k=1:=by simp [eL] at hk;omega
  rcases this with rfl|rfl
  ·exact (show okJ (eA,[])=true by decide +kernel)
  ·exact (show okJ (eB,[])=true by decide +kernel)
theorem enew_ok(w:World)(hT:SpTab w)(hTab:Tab w)(b:Nat)(hB:Blk w b 57 eCells){B:Nat}{w0:World}(hb:Below B w0 w)(hB0:B≤w0.heap.size):Calls Tryz.prog 9 #[.agg (cfV (eC b))] w fun e w'=>∃Y:Ly,e=.returned (.tuple #[.pointer (some ⟨Y.g,0,none⟩),.int .i64 0])∧GHas B w0 w' Y (g0 eG eL) :=
 (gnew_yes (eC b) eL w (e_arg hB hT hTab) e_ok).mono fun _ _ ⟨Y,h1,h2,h3,h4⟩=>⟨Y,h1,h2,hb.trans (h4.mono (Nat.le_trans hB0 hb.size)),fun i hi=>Nat.le_trans (Nat.le_trans hB0 hb.size) (h3 i (.inl hi)),hB0⟩
def s0:Gt:=g0 eG eL
def s1:Gt:=(s0.take 0 100).2
def s2:Gt:=(s1.take 1 100).2
def s3:Gt:=(s2.give 0 false 101).2.2
def s4:Gt:=(s3.take 0 104).2
theorem s0_take:s0.take 0 100=(0,s1):=Prod.ext (by decide +kernel) rfl
theorem s1_take:s1.take 1 100=(0,s2):=Prod.ext (by decide +kernel) rfl
theorem s2_why:s2.Why 0 100=(7,0):=by decide +kernel
theorem s2_give:s2.give 0 false 101=(7,0,s3):=Prod.ext (by decide +kernel) (Prod.ext (by decide +kernel) rfl)
theorem s3_why:s3.Why 0 101=(18,0):=by decide +kernel
theorem s3_next0:s3.next 0 101=(111,true,0):=by decide +kernel
theorem s3_next1:s3.next 1 101=(105,true,0):=by decide +kernel
theorem s3_until:s3.until 0=(111,true):=by decide +kernel
theorem s3_take:s3.take 0 104=(9,s4):=Prod.ext (by decide +kernel) rfl
theorem aworks_ok(w:World)(hT:SpTab w)(hTab:Tab w):Calls Tryz.prog 16 #[] w fun e w'=>e=.returned (.bool true)∧Below w.heap.size w w':=by
 have EX:=hid (example_ok w)
 have TT:=hid (fun W (hb:Below w.heap.size w W)=>And.intro (hT.below hb) (tab_below hTab hb (tab_lt hTab)))
 clear hT hTab
 go_enter Tryz.func16,Tryz.ntmps16
 go_wp2_with fail
 refine (EX.out).mono ?_
 rintro e_ w1 ⟨b,rfl,⟨hB,-⟩,hb⟩
 have NW:=hid (enew_ok w1 (TT.out w1 hb).1 (TT.out w1 hb).2 b hB hb (Nat.le_refl _))
 clear hB hb EX TT
 go_wp2_with fail
 refine (NW.out).mono ?_
 rintro e_ w2 ⟨Y,rfl,h⟩
 have H0:=hid h
 clear h NW
 go_wp2_with fail
 refine (gh_take H0.out 0 100 s0_take).mono ?_
 rintro e_ w3 ⟨rfl,h,-⟩
 have H1:=hid h
 clear h H0
 go_wp2_with fail
 refine (gh_take H1.out 1 100 s1_take).mono ?_
 rintro e_ w4 ⟨rfl,h,-⟩
 have H2:=hid h
 clear h H1
 go_wp2_with fail
 refine (gh_why H2.out 0 100 s2_why).mono ?_
 rintro e_ w5 ⟨rfl,h,-⟩
 have H3:=hid h
 clear h H2
 go_wp2_with fail
 refine (gh_give H3.out 0 false 101 s2_give).mono ?_
 rintro e_ w6 ⟨rfl,h,-⟩
 have H4:=hid h
 clear h H3
 go_wp2_with fail
 refine (gh_why H4.out 0 101 s3_why).mono ?_
 rintro e_ w7 ⟨rfl,h,-⟩
 have H5:=hid h
 clear h H4
 go_wp2_with fail
 refine (gh_next H5.out 0 101 s3_next0).mono ?_
 rintro e_ w8 ⟨rfl,h,-⟩
 have H6:=hid h
 clear h H5
 go_wp2_with fail
 refine (gh_next H6.out 1 101 s3_next1).mono ?_
 rintro e_ w9 ⟨rfl,h,-⟩
 have H7:=hid h
 clear h H6
 go_wp2_with fail
 refine (gh_until H7.out 0 s3_until).mono ?_
 rintro e_ w10 ⟨rfl,h,-⟩
 have H8:=hid h
 clear h H7
 go_wp2_with fail
 refine (gh_take H8.out 0 104 s3_take).mono ?_
 rintro e_ w11 ⟨rfl,h,-⟩
 have H9:=hid h
 clear h H8
 go_wp2_with fail
 go_ret
 exact ⟨rfl,H9.out.bel⟩
end Go.Proofs.YtpgckpafjiojfaaGreatDoor.AD
