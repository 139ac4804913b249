/- A block that is known whole; what a call that writes one block keeps. What a row asks behind a call that turns nothing below its own blocks. A range over an iterator that writes blocks of its own (a captured variable) between its rounds. A range over an iterator that yields a list: each round knows what was yielded ahead of it. A region that draws its order, inside a round: its operations only read and make calls that leave what was there alone, but for the last one, which waits for all others. -/
import Derived.Below
import Derived.Laws.OwnMore
import Derived.Deep.Draws
import Derived.Laws.Rows
import Derived.WalkKit
import Derived.Lib.Hide
import Derived.Test.YtpgckpafjiojfaaGreatDoorChecked
import Derived.ProofKit
import Derived.OpenShut
import Derived.WideKeyArgs
import Derived.ChangeSlices
import Derived.ChangeOld
import Derived.RangeFuncWrites
import Derived.RangeFuncBox
import Derived.ControlIn
import Derived.Sort.QuietThIn
import Derived.Lib.QuietBelow
import Derived.OwnWalkIn
import Derived.TacticsIn
namespace Go.Proofs.YtpgckpafjiojfaaGreatDoor.BK
open Go Go.RowKit
def Blk(w:World)(g:Nat)(t:TypeId)(cs:Array Value):Prop:=w.heap[g]? = some (.cells cs t (0,0))
section
variable{w w':World}{g:Nat}{t:TypeId}{cs:Array Value}
theorem Blk.lt(h:Blk w g t cs):g<w.heap.size:=by
 rcases Nat.lt_or_ge g w.heap.size with hlt|hge
 ·exact hlt
 ·unfold Blk at h;rw [Array.getElem?_eq_none hge] at h;cases h
theorem Blk.cell(h:Blk w g t cs)(i:Nat):w.cell? ⟨g,i,none⟩=cs[i]?:=cell_of_row w g i cs t (0,0) h
theorem Blk.frozen(h:Blk w g t cs)(i:Nat):w.frozen? ⟨g,i,none⟩=false:=by
 unfold Blk at h
 simp [World.frozen?,h]
theorem Blk.new(w:World)(t:TypeId)(cs:Array Value):Blk (w.alloc (.cells cs t)) w.heap.size t cs:=heap_alloc_new w _
theorem Blk.newAt{w:World}{t:TypeId}{cs:Array Value}{H:Nat}(h:w.heap.size=H):Blk (w.alloc (.cells cs t)) H t cs:=by subst h;exact heap_alloc_new w _
theorem Blk.drew(h:Blk w g t cs):Blk w.drew g t cs:=h
theorem Blk.drewN(h:Blk w g t cs)(n:Nat):Blk (w.drewN n) g t cs:=h
theorem Blk.alloc(h:Blk w g t cs)(o:Obj):Blk (w.alloc o) g t cs:=(Below.heap_alloc w o g h.lt).trans h
theorem Blk.set_(h:Blk w g t cs)(i:Nat)(u:Value):Blk (w.setCell ⟨g,i,none⟩ u) g t (cs.setIfInBounds i u):=by
 unfold Blk at h ⊢
 simp [World.setCell,Array.getElem?_modify,h]
theorem Blk.far(h:Blk w g t cs){p:Addr}(hp:g≠p.block)(u:Value):Blk (w.setCell p u) g t cs:=(Below.heap_setCell w p u g hp).trans h
theorem Blk.below{B:Nat}(h:Blk w g t cs)(hb:Below B w w')(hg:g<B):Blk w' g t cs:=(hb.block g hg).trans h
theorem Blk.grown{row:Option Nat}(h:Blk w g t cs)(hb:w.grownBy w' row)(hg:some g≠row):Blk w' g t cs:=(hb.block g h.lt hg).trans h
end
theorem ret_bool{a b:Bool}(h:a=b):Ending.returned (.bool a)=.returned (.bool b):=by rw [h]
theorem ret_i64{a b:Int}(h:a=b):Ending.returned (.int .i64 a)=.returned (.int .i64 b):=by rw [h]
theorem only_refl(w:World)(row:Option Nat):w.grownBy w row:=World.grownBy.refl w row
theorem only_drewN{a w:World}{row:Option Nat}(h:a.grownBy w row)(n:Nat):a.grownBy (w.drewN n) row:=⟨h.os,h.tape,h.output,h.size,h.block⟩
theorem only_drew{a w:World}{row:Option Nat}(h:a.grownBy w row):a.grownBy w.drew row:=⟨h.os,h.tape,h.output,h.size,h.block⟩
theorem only_alloc{a w:World}{row:Option Nat}(h:a.grownBy w row)(o:Obj):a.grownBy (w.alloc o) row :=
 ⟨h.os,h.tape,h.output,Nat.le_trans h.size (by simp),fun i hi hne=>(Below.heap_alloc w o i (Nat.lt_of_lt_of_le hi h.size)).trans (h.block i hi hne)⟩
theorem only_setCell{a w:World}{g:Nat}(h:a.grownBy w (some g)){p:Addr}(hp:p.block=g∨a.heap.size≤p.block)(u:Value):a.grownBy (w.setCell p u) (some g) :=
 ⟨h.os,h.tape,h.output,by simpa [World.setCell] using h.size,fun i hi hne=>(Below.heap_setCell w p u i (by
  rintro rfl
  rcases hp with hp|hp
  ·exact hne (by rw [hp])
  ·omega)).trans (h.block i hi hne)⟩
theorem only_of_below{a w:World}(h:Below a.heap.size a w)(row:Option Nat):a.grownBy w row:=⟨h.os,h.tape,h.output,h.size,fun i hi _=>h.block i hi⟩
theorem only_trans{a b c:World}{g:Nat}(h:a.grownBy b (some g))(k:b.grownBy c (some g)):a.grownBy c (some g) :=
 ⟨k.os.trans h.os,k.tape.trans h.tape,k.output.trans h.output,Nat.le_trans h.size k.size,fun i hi hne=>(k.block i (Nat.lt_of_lt_of_le hi h.size) hne).trans (h.block i hi hne)⟩
theorem below_only{B:Nat}{a b:World}{g:Nat}(h:a.grownBy b (some g))(hB:B≤a.heap.size)(hg:B≤g):Below B a b :=
 ⟨h.os,h.tape,h.output,h.size,fun i hi=>h.block i (by omega) (fun e=>by injection e with e;omega)⟩
theorem below_drewN{B:Nat}{a w:World}(h:Below B a w)(n:Nat):Below B a (w.drewN n):=⟨h.os,h.tape,h.output,h.size,h.block⟩
end Go.Proofs.YtpgckpafjiojfaaGreatDoor.BK
namespace Go.Proofs.YtpgckpafjiojfaaGreatDoor.RK
open Go.ChangeShapes Go.WideShapes Go.RowKit
theorem post_of_below{H:Type}{enc:TypeId × Value→H}{P:Program}{f:Func}{s:ChangeSpec}{apart fresh handsOn again:Bool}{W W':World}{args:Array Value}{v:Value}{ds gs:List (DataW H)}{before pa pv:List MemPlace}
 (hW:DataW.Whole enc P f.params.toList s.vars apart W args.toList ds gs before)
 (hres:∀(b:Nat) (sp:Nat→Bool) (hd:Bool),DataW.TrodAll enc P W' b sp hd f.resultTypes.toList (v.resultList f.resultTypes.size) (s.fn H (ds++gs)).results [])
 (hargs:∀sp:Nat→Bool,(∀p∈before,sp p.block=true)→DataW.TrodAll enc P W' 0 sp true f.params.toList args.toList (s.fn H (ds++gs)).args pa)
 (hvars:∀sp:Nat→Bool,(∀p∈before,sp p.block=true)→DataW.TrodVars enc P W' sp s.vars (s.fn H (ds++gs)).vars pv)
 (hps:before=pa++pv) (hb:Below W.heap.size W W')
 (hok:∀(j:Nat) (t:TypeId) (r:Value),f.resultTypes[j]? = some t→(v.resultList f.resultTypes.size)[j]? = some r→Value.okWide P W' .any 0 t r) :
 s.post enc P f apart fresh handsOn again W args v W':=by
 have hlt:∀p∈before,p.block<W.heap.size:=fun p hp=>hW.lt p hp
 have hold:∀p∈before,(fun b=>decide (b<W.heap.size)) p.block=true:=fun p hp=>decide_eq_true (hlt p hp)
 have hk:W.keptBut W' (·∈before):=hb.frame _
 refine ⟨ds,gs,before,[],pa,pv,hW,hres _ _ _,hargs _ hold,hvars _ hold,World.keptBut_mono (fun p hp=>⟨hp,?_⟩) hk,fun _=>?_⟩
 ·rw [hps,List.mem_append] at hp
  exact Or.inr hp
 ·obtain ⟨_,_,_,_,_,hz,hn⟩:=hW
  refine ⟨hok,_,_,([]++pa)++pv,⟨[]++pa,pv,trodAll_append (hargs _ (fun _ _=>rfl)) (hres _ _ _),hvars _ (fun _ _=>rfl),rfl,?_,?_⟩,?_⟩
  ·intro b off hp
   have hin:MemPlace.cell b off∈before:=by rw [hps];simpa using hp
   rw [hb.frozen (show b<W.heap.size from hlt _ hin)]
   exact hz b off hin
  ·intro ha
   have:=hn ha
   rw [hps] at this
   simpa using this
  ·intro p hp _
   rw [hps]
   simpa using hp
theorem trodAll_stays{H:Type}{enc:TypeId × Value→H}{P:Program}(hl:laidOutB P=true){W W':World}{sp:Nat→Bool}:∀{ts:List TypeId} {vs:List Value} {ds:List (DataW H)} {ps:List MemPlace},
 (ts.all fun t=>P.readableRec t&&decide (t<P.types.size))=true→DataW.TrodAll enc P W 0 (fun _=>true) true ts vs ds ps→(∀x∈ps,W.sameAt W' x)→(∀x∈ps,sp x.block=true) →
 DataW.TrodAll enc P W' 0 sp true ts vs ds ps
 | [],_,_,_,_,h,_,_=>by
  obtain ⟨rfl,rfl,rfl⟩:=trodAll_nil h
  exact trodAll_mk0
 | t::ts,_,_,_,hr,h,hs,hp=>by
  obtain ⟨v,vs1,d,ds1,a,b,rfl,rfl,rfl,h1,h2⟩:=trodAll_cons h
  simp only [List.all_cons,Bool.and_eq_true,decide_eq_true_eq] at hr
  exact trodAll_cons_mk (Go.WideElems.Trod_stays hl hr.1.1 hr.1.2 h1 (fun x hx=>hs x (List.mem_append_left _ hx)) (fun x hx=>hp x (List.mem_append_left _ hx)))
   (trodAll_stays hl hr.2 h2 (fun x hx=>hs x (List.mem_append_right _ hx)) (fun x hx=>hp x (List.mem_append_right _ hx)))
theorem u64_nat{a:Int}(w:(Lit.int .u64 a).wf=true):∃n:Nat,a=n∧n<18446744073709551616:=by
 have h:(0≤a∧a≤18446744073709551615):=by simpa [Lit.wf,IntKind.min,IntKind.max,IntKind.signed,IntKind.bits] using w
 exact ⟨a.toNat,by omega,by omega⟩
end Go.Proofs.YtpgckpafjiojfaaGreatDoor.RK
namespace Go.Proofs.YtpgckpafjiojfaaGreatDoor.RK
open Go Go.RowKit
structure Steps(own:Nat→Prop)(B:Nat)(X Y:World):Prop where
 os:Y.os=X.os
 tape:Y.tape=X.tape
 output:Y.output=X.output
 size:X.heap.size≤Y.heap.size
 same:∀(k:Nat) (o:Obj),X.heap[k]? = some o→¬own k→(B≤k→o.isCells=true)→Y.heap[k]? = some o
 kind:∀(k:Nat) (cs:Array Value) (t:TypeId) (f:Nat × Nat),own k→X.heap[k]? = some (.cells cs t f)→∃cs',Y.heap[k]? = some (.cells cs' t f)
theorem Steps.trans{own:Nat→Prop}{B:Nat}{X Y Z:World}(h:Steps own B X Y)(k:Steps own B Y Z):Steps own B X Z :=
 ⟨k.os.trans h.os,k.tape.trans h.tape,k.output.trans h.output,Nat.le_trans h.size k.size,fun i o hi hn hc=>k.same i o (h.same i o hi hn hc) hn hc,
  fun i cs t f ho hi=>by obtain ⟨cs',h'⟩:=h.kind i cs t f ho hi;exact k.kind i cs' t f ho h'⟩
theorem Steps.mono{own:Nat→Prop}{B C:Nat}{X Y:World}(h:Steps own C X Y)(hB:B≤C):Steps own B X Y :=
 ⟨h.os,h.tape,h.output,h.size,fun i o hi hn hc=>h.same i o hi hn (fun hle=>hc (Nat.le_trans hB hle)),h.kind⟩
theorem Steps.alloc(own:Nat→Prop)(B:Nat)(X:World)(o:Obj):Steps own B X (X.alloc o) :=
 ⟨rfl,rfl,rfl,by simp,fun k o' hk _ _=>(Below.heap_alloc X o k (Array.getElem?_eq_some_iff.1 hk).1).trans hk,
  fun k cs _ _ _ hk=>⟨cs,(Below.heap_alloc X o k (Array.getElem?_eq_some_iff.1 hk).1).trans hk⟩⟩
theorem Steps.putObj(own:Nat→Prop){B l:Nat}{X:World}{o:Obj}(o':Obj)(hB:B≤l)(hl:X.heap[l]? = some o)(hc:o.isCells=false):Steps own B X (X.putObj l o') :=
 ⟨rfl,rfl,rfl,by simp,fun k o2 hk _ h2=>by
  by_cases e:k=l
  ·subst e;rw [hl] at hk;cases hk;rw [h2 hB] at hc;cases hc
  ·exact (World.putObj_heap_other e).trans hk,
  fun k cs t f _ hk=>by
   by_cases e:k=l
   ·subst e;rw [hl] at hk;cases hk;cases hc
   ·exact ⟨cs,(World.putObj_heap_other e).trans hk⟩⟩
def Closed(own:Nat→Prop)(B:Nat){β:Type}(J:β→World→Prop):Prop:=∀s X Y,J s X→Steps own B X Y→J s Y
variable{F:Fence}{n:Nat}{P:Program}
def SeqL{α:Type}(F:Fence)(n:Nat)(P:Program)(g:Nat)(lb:Array Value)(encs:α→Array Value)(own:Nat→Prop)(Kp:World→World→Prop)(L:List α)(m:Nat)(w:World):Prop :=
 ∀(l:Nat) (J Jx:List α→World→Prop) (W:World),W.heap.size=w.heap.size+2→Below w.heap.size w W→Closed own W.heap.size J→Closed own W.heap.size Jx →
  (∀pre x W1,J pre W1→(pre++[x]) <+: L→w.heap.size+2+m≤W1.heap.size→YieldAt F (n - 1) P l (encs x) W1 fun e W' =>
   (e=.returned (.bool true)∧J (pre++[x]) W'∧Kp W1 W')∨(e=.returned (.bool false)∧Jx (pre++[x]) W'∧KeepsFrom (w.heap.size+2) W1 W')) →
  J [] W →
  CallsIn F n P g (#[.func (.yield l) #[] #[]]++lb) W fun e W'=>(∃v,e=.returned v)∧(J L W'∨(∃pre,pre <+: L∧Jx pre W'))
theorem Steps.of_below{own:Nat→Prop}{B:Nat}{X Y:World}(h:Below X.heap.size X Y):Steps own B X Y :=
 ⟨h.os,h.tape,h.output,h.size,fun k _ hk _ _=>(h.block k (Array.getElem?_eq_some_iff.1 hk).1).trans hk,
  fun k cs _ _ _ hk=>⟨cs,(h.block k (Array.getElem?_eq_some_iff.1 hk).1).trans hk⟩⟩
theorem yieldAt_wide{m k:Nat}{P:Program}{l:Nat}{args:Array Value}{W:World}{R:Ending→World→Prop}(h:YieldAt Fence.wide m P l args W R):YieldAt Fence.wide k P l args W R:=by
 obtain ⟨fn,tmps,assign,body,hy,hr⟩:=h
 exact ⟨fn,tmps,assign,body,hy,hr.1,fun c cs _=>hr.2 c cs (room_wide _)⟩
theorem keepsFrom_put{B l:Nat}{X:World}(o:Obj)(h:l<B):KeepsFrom B X (X.putObj l o):=⟨by simp,fun k o' hk hx _=>(World.putObj_heap_other (by omega)).trans hx⟩
theorem yieldAt_mono{F:Fence}{m:Nat}{P:Program}{l:Nat}{args:Array Value}{W:World}{R R':Ending→World→Prop}(h:YieldAt F m P l args W R)(hr:∀e w',R e w'→R' e w'):YieldAt F m P l args W R':=by
 obtain ⟨fn,tmps,assign,body,hy,hR⟩:=h
 exact ⟨fn,tmps,assign,body,hy,hR.mono hr⟩
variable{F:Fence}{n:Nat}{P:Program}
theorem wpIn_rangeFunc_seqL{α:Type}{g:Operand}{ps:Array Tmp}{assign body:Code}{Q:Exit→Act→World→Prop}{a:Act}{w:World}
 (hro:F.round=none) (h1:1≤n) {gf:Nat} {lb:Array Value} (hg:a.eval g=.func (.func gf) #[] lb) (hFg:F.fn gf) (eg:∀args w,(callFunc gf args).run P w=.ok (.enter gf args) w)
 {encs:α→Array Value} {own:Nat→Prop} {Kp:World→World→Prop} {L0:List α} {m:Nat} (hseq:SeqL F (n - 1) P gf lb encs own Kp L0 m w) (hown:∀k,own k→k<w.heap.size)
 (hKt:∀{A B C:World},Kp A B→Kp B C→Kp A C) (hKb:∀(W:World) (o o':Obj),W.heap[w.heap.size+1]? = some o→o.isCells=false→Kp W (W.putObj (w.heap.size+1) o')) (hps:∀x,(encs x).size=ps.size)
 (I:List α→World→Prop) (Ix:Code→List α→World→Prop) (hI:Closed own w.heap.size I) (hIx:∀c,Closed own w.heap.size (Ix c)) (h0:I [] w) (a₁:α→Act)
 (hassign:∀(l:Nat) (x:α) (W:World) (K:Act→World→Prop),K (a₁ x) W →
  assign.wpIn (F.inRound l) (n - 1 - 1) P (Exit.then K (fun _ _ _=>False)) { tmps:=(ps.zip (encs x)).foldl (fun t (p,v)=>t.setIfInBounds p v) a.tmps,defers:=[] } W)
 (hbody:∀(l:Nat) (pre:List α) (x:α) (W:World),I pre W→(pre++[x]) <+: L0→w.heap.size+2+m≤W.heap.size→body.wpIn (F.inRound l) (n - 1 - 1) P (ownPostG w.heap.size Kp I Ix (pre++[x]) W) (a₁ x) W)
 (hdone:∀(D:Nat) (W:World),w.heap.size≤D→I L0 W→W.heap[D]? = some (.deferred (some []))→Q .normal { a with defers:={ target:=.collected D,args:=#[] }::a.defers } W)
 (hstop:∀(D:Nat) (c:Code) (pre:List α) (W:World),w.heap.size≤D→pre <+: L0→Ix c pre W→W.heap[D]? = some (.deferred (some []))→c.wpIn F n P Q { a with defers:={ target:=.collected D,args:=#[] }::a.defers } W) :
 (Code.rangeFunc g ps assign body).wpIn F n P Q a w:=by
 refine wpIn_rangeFunc fun fn hfn=>?_
 rw [hro]
 let rec':LoopState→Option Code→Obj:=fun st pe=>.loop { state:=st,pending:=pe,fn,tmps:=a.tmps,params:=ps,assign,body,defers:=w.heap.size }
 let D:=w.heap.size
 let L:=w.heap.size+1
 let W0:=(w.alloc (.deferred (some []))).alloc (rec' .ready none)
 have sz:W0.heap.size=w.heap.size+2:=by simp [W0]
 have atL:W0.heap[L]? = some (rec' .ready none):=by
  have:=World.alloc_heap_new (w.alloc (.deferred (some []))) (rec' .ready none)
  rw [World.size_alloc] at this;exact this
 have atD:W0.heap[D]? = some (.deferred (some [])):=(Below.heap_alloc _ _ _ (by simp [D])).trans (World.alloc_heap_new w _)
 have st0:Steps own w.heap.size w W0:=(Steps.alloc own _ w _).trans (Steps.alloc own _ _ _)
 have bel:Below w.heap.size w W0:=((Below.refl _ w).alloc (Nat.le_refl _) _).alloc (by simp) _
 have nD:¬own D:=fun h=>absurd (hown D h) (by simp [D])
 have nL:¬own L:=fun h=>absurd (hown L h) (by simp [L])
 let At:LoopState→Option Code→World→Prop:=fun st pe W=>W.heap[L]? = some (rec' st pe)∧W.heap[D]? = some (.deferred (some []))
 have atClosed:∀st pe X Y,At st pe X→Steps own W0.heap.size X Y→At st pe Y:=fun st pe X Y h hs =>
  ⟨hs.same L _ h.1 nL (fun hle=>absurd hle (by simp [sz,L])),hs.same D _ h.2 nD (fun hle=>absurd hle (by simp [sz,D]))⟩
 have put:∀st pe st' pe' (W:World),At st pe W→At st' pe' (W.putObj L (rec' st' pe')):=fun st pe st' pe' W h =>
  ⟨World.putObj_heap_same (Array.getElem?_eq_some_iff.1 h.1).1,(World.putObj_heap_other (by simp [D,L])).trans h.2⟩
 have putS:∀st pe st' pe' (W:World),At st pe W→Steps own w.heap.size W (W.putObj L (rec' st' pe')):=fun st pe st' pe' W h =>
  Steps.putObj own _ (by simp [L]) h.1 rfl
 have putK:∀st pe st' pe' (W:World),At st pe W→Kp W (W.putObj L (rec' st' pe')):=fun st pe st' pe' W h=>hKb W _ _ h.1 rfl
 refine ⟨L,[{ target:=.collected D,args:=#[] }],W0,{ target:=.fn (.func gf) lb,args:=#[.func (.yield L) #[] #[]] },W0,gf,#[.func (.yield L) #[] #[]]++lb,W0,
  run_enterLoop_outer _ _ _ _ _,by simp only [resolve,hg];simp [go_sem],fun f' hf'=>by simp [Target.leads] at hf';subst hf';exact hFg,by simp [invoke,go_sem,eg],fun _=>h1,?_⟩
 refine (hseq L (fun pre W=>I pre W∧At .ready none W) (fun pre W=>∃c,Ix c pre W∧At .done (some c) W) W0 sz bel
  (fun s X Y h hs=>⟨hI s X Y h.1 (hs.mono (by omega)),atClosed _ _ X Y h.2 hs⟩)
  (fun s X Y h hs=>by obtain ⟨c,hc,ha⟩:=h;exact ⟨c,hIx c s X Y hc (hs.mono (by omega)),atClosed _ _ X Y ha hs⟩)
  ?_ ⟨hI _ _ _ h0 st0,atL,atD⟩).mono ?_
 ·-- one round
  rintro pre x W ⟨hi,ha⟩ hpre hlen
  refine ⟨fn,_,assign,body,run_yield (P:=P) (args:=encs x) ha.1 (hps x),roundIn_of_wpIn hfn (hassign _ x W _ ⟨_,run_beginRound ha.1 rfl,?_⟩)⟩
  have hb:=put _ _ .busy none W ha
  have keep:∀W3,KeepsFrom w.heap.size (W.putObj L (rec' .busy none)) W3→At .busy none W3:=fun W3 hk =>
   ⟨hk.same L _ (by simp [L]) hb.1 rfl,hk.same D _ (Nat.le_refl _) hb.2 rfl⟩
  have done:∀c W3,KeepsFrom w.heap.size (W.putObj L (rec' .busy none)) W3→Ix c (pre++[x]) W3 →
   ∃v w',(Instr.endRound L (some c)).run P W3=.ok v w'∧((Ending.returned v=.returned (.bool true)∧(I (pre++[x]) w'∧At .ready none w')∧Kp W w')∨(Ending.returned v=.returned (.bool false)∧(∃c,Ix c (pre++[x]) w'∧At .done (some c) w')∧KeepsFrom (w.heap.size+2) W w')):=fun c W3 hk hx =>
   ⟨_,_,run_endRound (some c) (keep W3 hk).1,.inr ⟨rfl,⟨c,hIx c _ _ _ hx (putS _ _ .done (some c) W3 (keep W3 hk)),put _ _ .done (some c) W3 (keep W3 hk)⟩,(keepsFrom_put _ (by simp [L])).trans ((KeepsFrom.mk hk.size (fun i o hB=>hk.same i o (by omega))).trans (keepsFrom_put _ (by simp [L])))⟩⟩
  refine wpIn_mono (hbody L pre x _ (hI _ _ _ hi (putS _ _ .busy none W ha)) hpre (by simpa using hlen)) ?_
  rintro e a3 W3 hp
  cases e with
  | normal =>
   obtain ⟨hk,hkp,hi3⟩:=hp
   have hb3:=keep W3 hk
   exact ⟨_,_,run_endRound none hb3.1,.inl ⟨rfl,⟨hI _ _ _ hi3 (putS _ _ .ready none W3 hb3),put _ _ .ready none W3 hb3⟩,hKt (hKt (putK _ _ .busy none W ha) hkp) (putK _ _ .ready none W3 hb3)⟩⟩
  | ret=>exact done _ W3 hp.1 hp.2
  | exit id=>exact done _ W3 hp.1 hp.2
  | goto t=>exact done _ W3 hp.1 hp.2
  | panic ch=>exact hp.elim
  | outgrown=>exact hp.elim
 ·-- behind the iterator
  rintro e W2 ⟨⟨v,rfl⟩,(⟨hi,ha⟩|⟨pre,hSp,c,hi,ha⟩)⟩
  ·exact ⟨none,_,run_endLoop ha.1 (by simp),hdone D _ (Nat.le_refl _) (hI _ _ _ hi (putS _ _ .exhausted none W2 ha)) (put _ _ .exhausted none W2 ha).2⟩
  ·exact ⟨some c,_,run_endLoop ha.1 (by simp),hstop D c pre _ (Nat.le_refl _) hSp (hIx c _ _ _ hi (putS _ _ .exhausted (some c) W2 ha)) (put _ _ .exhausted (some c) W2 ha).2⟩
end Go.Proofs.YtpgckpafjiojfaaGreatDoor.RK
namespace Go.Proofs.YtpgckpafjiojfaaGreatDoor.RK
open Go Go.RowKit Go.Sort
theorem quiet_wide{n:Nat}{P:Program}{o:Oper}{a:Act}{C:World→Prop}{K:Act→Prop}(h:o.quiet P a C K):o.quietIn Fence.wide n P a C K:=by
 obtain ⟨v,h1,h2⟩:=h
 refine ⟨v,fun w hw=>?_,h2⟩
 have h3:=h1 w hw
 unfold Oper.quietAt at h3
 unfold Oper.quietAtIn
 generalize (execOp a.eval o).run P w=r at *
 cases r with
 | ok x w' =>
  cases x<;>simp only [Oper.quietUpon] at h3<;>simp only [Oper.quietUponIn]
  case value u=>exact h3
  case skip=>exact h3
  case enter f args=>exact ⟨h3.1,fun h=>by simp [Fence.wide] at h,callsIn_wide.2 h3.2⟩
 | halt x w'=>simp only [Oper.quietUpon] at h3
theorem wpQuiet_wide{n:Nat}{P:Program}{ops:Array Oper}{C:World→Prop}{Q:Act→Prop}:∀(l:List Oper) (a:Act),wpQuiet P ops C Q l a→wpQuietIn Fence.wide n P ops C Q l a
 | [],_,h=>h
 | o::l,a,h=>by
  refine ⟨fun _ _ _ _=>trivial,?_⟩
  unfold wpQuiet at h
  split
  ·rename_i hw
   rw [if_pos hw] at h
   exact Oper.quietIn_mono (fun a h=>wpQuiet_wide l a h) (quiet_wide h)
  ·rename_i hw
   rw [if_neg hw] at h
   exact wpQuiet_wide l _ h
theorem wpIn_inRound{F:Fence}{n:Nat}{P:Program}{o:Oper}{a:Act}{w:World}{K:Act→World→Prop}{Q:Exit→Act→World→Prop}(l:Nat)(hro:F.round=none)(hd:∀c,o.op≠.defer c)(h:o.wpIn F n P a w K Q):o.wpIn (F.inRound l) n P a w K Q:=by
 refine ⟨h.1,?_⟩
 have h2:=h.2
 rw [hro,Oper.semAt_none] at h2
 rw [Oper.semAt_plain (F.inRound l) _ _ hd]
 exact h2
def tailB(ls:List Oper)(s:Oper):Bool :=
 (ls.all fun o=>o.guard.isNone&&(match o.op with|.defer _=>false|_=>true))&&s.guard.isNone&&(match s.op with|.defer _=>false|_=>true) &&
 ((List.range ls.length).all fun j=>(ls[j]?.map fun o=>o.after.all fun e=>decide (e.on<j)).getD false) &&
 ((List.range ls.length).all fun j=>s.after.any fun e=>Region.binds .any e&&e.on==j)&&s.after.all fun e=>decide (e.on<ls.length)
theorem wanted_plain{o:Oper}(h:o.guard.isNone=true)(y:Nat→Option Bool):Region.wanted o y=true:=by
 unfold Region.wanted
 cases hg:o.guard with
 | none=>rfl
 | some p=>rw [hg] at h;cases h
theorem getD_any{x:Array Bool}{j:Nat}(h:j<x.size)(d e:Bool):x.getD j d=x.getD j e:=by simp [h]
section
variable{ls:List Oper}{s:Oper}
theorem tail_facts(h:tailB ls s=true):(∀(j:Nat) o,ls[j]? = some o→o.guard.isNone=true∧(∀c,o.op≠.defer c)∧∀e∈o.after,e.on<j)∧s.guard.isNone=true∧(∀c,s.op≠.defer c) ∧
 (∀j,j<ls.length→∃e∈s.after,Region.binds .any e=true∧e.on=j)∧∀e∈s.after,e.on<ls.length:=by
 unfold tailB at h
 simp only [Bool.and_eq_true,List.all_eq_true,List.mem_range,Array.all_eq_true',decide_eq_true_eq] at h
 obtain ⟨⟨⟨⟨⟨h1,h2⟩,h3⟩,h4⟩,h5⟩,h6⟩:=h
 refine ⟨fun j o ho=>?_,h2,?_,fun j hj=>?_,h6⟩
 ·have hm:=List.mem_of_getElem? ho
  obtain ⟨q1,q2⟩:=h1 o hm
  refine ⟨q1,fun c hc=>?_,?_⟩
  ·rw [hc] at q2;cases q2
  ·have hj:j<ls.length:=(List.getElem?_eq_some_iff.1 ho).1
   have:=h4 j hj
   rw [ho] at this
   simp only [Option.map_some,Option.getD_some,Array.all_eq_true',decide_eq_true_eq] at this
   exact this
 ·intro c hc;rw [hc] at h3;cases h3
 ·have:=h5 j hj
  obtain ⟨e,he,hb⟩:=Array.any_eq_true'.1 this
  simp only [Bool.and_eq_true,beq_iff_eq] at hb
  exact ⟨e,he,hb.1,hb.2⟩
theorem at_low{j:Nat}(h:j<ls.length):(ls++[s]).toArray[j]? = ls.toArray[j]?:=by simp [List.getElem?_append_left h]
theorem at_last:(ls++[s]).toArray[ls.length]? = some s:=by simp
theorem ready_low(h:tailB ls s=true){x y:Array Bool}(hy:y.size=ls.length)(hx:x.size=ls.length+1)(hxy:∀j,j<ls.length→x.getD j false=y.getD j false){i:Nat}(hi:i<ls.length) :
 i∈Region.ready .any (ls++[s]).toArray x↔i∈Region.ready .any ls.toArray y:=by
 rw [mem_ready,mem_ready,at_low hi,getD_any (by omega) true false,getD_any (x:=y) (by omega) true false,hxy i hi]
 have ht:=(tail_facts h).1 i
 constructor
 ·rintro ⟨h1,o,ho,h2⟩
  exact ⟨h1,o,ho,fun e he hb=>by rw [←hxy _ (Nat.lt_trans ((ht o (by simpa using ho)).2.2 e he) hi)];exact h2 e he hb⟩
 ·rintro ⟨h1,o,ho,h2⟩
  exact ⟨h1,o,ho,fun e he hb=>by rw [hxy _ (Nat.lt_trans ((ht o (by simpa using ho)).2.2 e he) hi)];exact h2 e he hb⟩
theorem all_of_nil(h:tailB ls s=true){y:Array Bool}(hy:y.size=ls.length)(hn:Region.ready .any ls.toArray y=[]):∀j,j<ls.length→y.getD j false=true:=by
 intro j
 induction j using Nat.strongRecOn with
 | ind j ih =>
  intro hj
  cases hv:y.getD j false with
  | true=>rfl
  | false =>
   have hm:j∈Region.ready .any ls.toArray y:=by
    rw [mem_ready]
    refine ⟨by rw [getD_any (by omega) true false];exact hv,ls[j],by simp [hj],fun e he _=>?_⟩
    have:=((tail_facts h).1 j ls[j] (by simp [hj])).2.2 e he
    exact ih e.on this (by omega)
   rw [hn] at hm;cases hm
theorem last_ready(h:tailB ls s=true){x:Array Bool}(hl:x.getD ls.length true=false):ls.length∈Region.ready .any (ls++[s]).toArray x↔∀j,j<ls.length→x.getD j false=true:=by
 obtain ⟨_,_,_,h4,h5⟩:=tail_facts h
 rw [mem_ready,at_last]
 constructor
 ·rintro ⟨_,o,ho,h2⟩ j hj
  obtain rfl:=Option.some.inj ho
  obtain ⟨e,he,hb,rfl⟩:=h4 j hj
  exact h2 e he hb
 ·intro ha
  exact ⟨hl,s,rfl,fun e he _=>ha e.on (h5 e he)⟩
theorem ready_lt{ops:Array Oper}{x:Array Bool}{i:Nat}(h:i∈Region.ready .any ops x):i<ops.size:=by
 unfold Region.ready at h
 rw [List.mem_filter,List.mem_range] at h
 exact h.1
theorem ready_full{x:Array Bool}(hx:x.size=ls.length+1)(ha:∀j,j<ls.length→x.getD j false=true):Region.ready .any (ls++[s]).toArray (x.setIfInBounds ls.length true)=[]:=by
 rw [List.eq_nil_iff_forall_not_mem]
 intro i hi
 have hlt:=ready_lt hi
 simp at hlt
 obtain ⟨h1,_⟩:=mem_ready.1 hi
 rcases Nat.lt_or_ge i ls.length with h2|h2
 ·rw [getD_set_ne true (by omega),getD_any (by omega) true false,ha i h2] at h1;cases h1
 ·obtain rfl:i=ls.length:=by omega
  have hlt2:ls.length<x.size:=by omega
  simp [hlt2] at h1
variable{F:Fence}{n:Nat}{P:Program}{C:World→Prop}{Qa:Act→Prop}{Q:Exit→Act→World→Prop}
theorem lift_tail(l:Nat)(hro:F.round=none)(ht:tailB ls s=true)
 (hs:∀a w,C w→Qa a→s.wpIn (F.inRound l) n P a w (fun a w=>Q .normal a w) Q) :
 ∀(fuel:Nat) (x y:Array Bool) (a:Act),y.size=ls.length→x.size=ls.length+1→(∀j,j<ls.length→x.getD j false=y.getD j false)→x.getD ls.length true=false →
  wpAnyQIn F n P .any ls.toArray C Qa fuel y a→∀w,C w→wpAnyIn (F.inRound l) n P .any (ls++[s]).toArray Q (fuel+1) x a w:=by
 obtain ⟨t1,t2,t3,t4,t5⟩:=tail_facts ht
 have fin:∀(fuel:Nat) (x:Array Bool) (a:Act) (w:World),x.size=ls.length+1→(∀j,j<ls.length→x.getD j false=true)→Qa a→C w →
  wpOpIn (F.inRound l) n P (ls++[s]).toArray Q ls.length (wpAnyIn (F.inRound l) n P .any (ls++[s]).toArray Q fuel (x.setIfInBounds ls.length true)) a w:=by
  intro fuel x a w hx ha hq hc
  unfold wpOpIn
  simp only [at_last,wanted_plain t2,if_true]
  refine Oper.wpIn_mono (fun a' w' h=>?_) (hs a w hc hq)
  have hn:=ready_full (s:=s) hx ha
  cases fuel with
  | zero=>exact ⟨hn,h⟩
  | succ k=>exact ⟨fun _=>h,fun i hi=>by rw [hn] at hi;cases hi⟩
 intro fuel
 induction fuel with
 | zero =>
  intro x y a hy hx hxy hl h w hw
  have hall:=all_of_nil ht hy h.1
  have hax:∀j,j<ls.length→x.getD j false=true:=fun j hj=>by rw [hxy j hj];exact hall j hj
  have hlast:=(last_ready ht hl).2 hax
  refine ⟨fun hn=>(by rw [hn] at hlast;cases hlast),fun i hi=>?_⟩
  have hlt:=ready_lt hi
  simp at hlt
  rcases Nat.lt_or_ge i ls.length with h2|h2
  ·have:=(ready_low ht hy hx hxy h2).1 hi
   rw [h.1] at this;cases this
  ·obtain rfl:i=ls.length:=by omega
   exact fin 0 x a w hx hax h.2 hw
 | succ fuel ih =>
  intro x y a hy hx hxy hl h w hw
  refine ⟨fun hn=>?_,fun i hi=>?_⟩
  ·exfalso
   have hn':Region.ready .any ls.toArray y=[]:=by
    rw [List.eq_nil_iff_forall_not_mem]
    intro i hi
    have hlt:=ready_lt hi
    simp at hlt
    have:=(ready_low ht hy hx hxy hlt).2 hi
    rw [hn] at this;cases this
   have hall:=all_of_nil ht hy hn'
   have:=(last_ready ht hl).2 (fun j hj=>by rw [hxy j hj];exact hall j hj)
   rw [hn] at this;cases this
  ·have hlt:=ready_lt hi
   simp at hlt
   rcases Nat.lt_or_ge i ls.length with h2|h2
   ·have hi':=(ready_low ht hy hx hxy h2).1 hi
    have hq:=h.2 i hi'
    unfold qOpIn at hq
    unfold wpOpIn
    rw [at_low h2]
    have ho:ls.toArray[i]? = some ls[i]:=by simp [h2]
    obtain ⟨g1,g2,g3⟩:=t1 i ls[i] (by simp [h2])
    simp only [ho,wanted_plain g1,if_true] at hq ⊢
    refine wpIn_inRound l hro g2 (Oper.wpIn_of_quiet (K:=wpAnyQIn F n P .any ls.toArray C Qa fuel (y.setIfInBounds i true)) hro hw (fun a' w' hw' hk=>?_) hq.1 hq.2)
    refine ih (x.setIfInBounds i true) (y.setIfInBounds i true) a' (by simpa using hy) (by simpa using hx) (fun j hj=>?_) (by rw [getD_set_ne true (by omega)];exact hl) hk w' hw'
    by_cases hij:i=j
    ·subst hij
     have e1:i<x.size:=by omega
     have e2:i<y.size:=by omega
     simp [e1,e2]
    ·rw [getD_set_ne false hij,getD_set_ne false hij];exact hxy j hj
   ·obtain rfl:i=ls.length:=by omega
    have hax:=(last_ready ht hl).1 hi
    have hn':Region.ready .any ls.toArray y=[]:=by
     rw [List.eq_nil_iff_forall_not_mem]
     intro i hi
     have hlt:=ready_lt hi
     simp at hlt
     have:=(mem_ready.1 hi).1
     rw [getD_any (by omega) true false,←hxy i hlt,hax i hlt] at this;cases this
    exact fin (fuel+1) x a w hx hax (h.1 hn') hw
end
theorem none_listed(m j:Nat):(Array.replicate m false).getD j false=false:=by
 rcases Nat.lt_or_ge j m with h|h<;>simp [h]
theorem wpIn_region_tail{n:Nat}{P:Program}{C:World→Prop}{Qa:Act→Prop}{Q:Exit→Act→World→Prop}{l id:Nat}(ls:List Oper)(s:Oper){a:Act}{w:World}(hm:P.follows .mixedOrders=true)(hB:Region.lexB .any ls.toArray=true)(ht:tailB ls s=true)
 (hC:C { w with drawn:=w.drawn+1 }) (h:wpQuiet P ls.toArray C Qa ls a)
 (hs:∀a w,C w→Qa a→s.wpIn (Fence.wide.inRound l) n P a w (fun a w=>Q .normal a w) Q) :
 (Code.region id (ls++[s]).toArray true).wpIn (Fence.wide.inRound l) n P Q a w:=by
 refine wpIn_region_any hm ?_
 simp only [Region.lexB,Bool.and_eq_true] at hB
 have hq:=wpAnyQIn_lex (F:=Fence.wide) (n:=n) (C:=C) (md:=.any) hB.1 ls 0 (Array.replicate ls.toArray.size false) a (by simp) (by simpa using hB.2) (wpQuiet_wide ls a h)
 have:=lift_tail (Q:=Q) l rfl ht hs ls.length (Array.replicate (ls++[s]).toArray.size false) (Array.replicate ls.toArray.size false) a (by simp) (by simp) (fun j hj=>(by rw [none_listed,none_listed])) (by simp) hq _ hC
 simpa using this
theorem wpIn_region_tail2{n:Nat}{P:Program}{Q:Exit→Act→World→Prop}{l id:Nat}(L:List Oper)(k:Nat)(s:Oper){a:Act}{w:World}(hL:L=L.take k++[s])(hm:P.follows .mixedOrders=true)(hB:Region.lexB .any (L.take k).toArray=true)(ht:tailB (L.take k) s=true)
 (h:wpQuiet P (L.take k).toArray (fun w'=>∃p:Regrown,w'=grow (redrawn w p.d) p.os) (fun a'=>∀w',(∃p:Regrown,w'=grow (redrawn w p.d) p.os)→wpListIn (Fence.wide.inRound l) n P #[s] Q [s] a' w') (L.take k) a) :
 (Code.region id L.toArray true).wpIn (Fence.wide.inRound l) n P Q a w:=by
 have e:=wpIn_region_tail (n:=n) (Q:=Q) (l:=l) (id:=id) (w:=w) (L.take k) s hm hB ht (C:=fun w'=>∃p:Regrown,w'=grow (redrawn w p.d) p.os) ⟨⟨w.drawn+1,#[]⟩,by rw [grow_empty];rfl⟩ h (fun a' w' hc hq=>by
  have h1:=hq w' hc
  unfold wpListIn at h1
  rw [if_pos (wanted_plain (tail_facts ht).2.1 _)] at h1
  exact h1)
 rwa [←hL] at e
end Go.Proofs.YtpgckpafjiojfaaGreatDoor.RK
