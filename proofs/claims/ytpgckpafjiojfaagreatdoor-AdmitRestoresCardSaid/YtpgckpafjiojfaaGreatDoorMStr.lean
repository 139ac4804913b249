/- Library functions that field.Check calls: strings.Fields, strings.Trim, slices.Contains at this program; field.named. Contracts of field.Check at the kinds of fields that there are, of field.Specs, field.Full, expr.full. Contract of expr.full: the set of all numbers of a kind of field. -/
import Derived.Test.YtpgckpafjiojfaaGreatDoorABits
import Derived.Test.YtpgckpafjiojfaaGreatDoorMSeq
import Derived.Ground.NamesProg
import Derived.Shelf.Lay
import Derived.Shelf.Strings.SlTrimAscii
import Derived.Shelf.Strings.Fields
import Derived.Shelf.Slices.Turned
open Go.Lib (hid)
set_option maxRecDepth 16000
set_option maxHeartbeats 40000000
namespace Go.Proofs
open Go.Shelf
shelf_lay Lays.n160 Nm 160 at Tryz as Tryz.lays160
shelf_lay Lays.n157 Nm 157 at Tryz as Tryz.lays157
shelf_lay Lays.n110 Nm 110 at Tryz as Tryz.lays110
end Go.Proofs
namespace Go.Proofs.YtpgckpafjiojfaaGreatDoor.BW
open Go.RowKit BM Go.Shelf
def upper:ByteArray:=⟨#[65,66,67,68,69,70,71,72,73,74,75,76,77,78,79,80,81,82,83,84,85,86,87,88,89,90]⟩
def months:ByteArray:=⟨#[74,65,78,32,70,69,66,32,77,65,82,32,65,80,82,32,77,65,89,32,74,85,78,32,74,85,76,32,65,85,71,32,83,69,80,32,79,67,84,32,78,79,86,32,68,69,67]⟩
def weekdays:ByteArray:=⟨#[83,85,78,32,77,79,78,32,84,85,69,32,87,69,68,32,84,72,85,32,70,82,73,32,83,65,84]⟩
def monthsL:List ByteArray:=(Lib.fields months.data.toList).map fun l=>⟨l.toArray⟩
def weekdaysL:List ByteArray:=(Lib.fields weekdays.data.toList).map fun l=>⟨l.toArray⟩
theorem trim_at(s:ByteArray)(w:World)(hs:s.size≤9223372036854775807) :
 Calls Tryz.prog 246 #[.string s,.string upper] w fun e w'=>e=.returned (.string ⟨(Lib.trimS s.data.toList upper.data.toList).toArray⟩)∧Below w.heap.size w w' :=
 Any.strings_Trim_laid Tryz.lays160 (by kernel_rfl) s upper w hs (by decide) (ascii_of_all (by decide))
def SpTab(w:World):Prop:=Lib.TabIs Tryz.prog w "strings.asciiSpace" .u8 Lib.asciiSpaceTab
theorem fields_at(s:ByteArray)(w:World)(hs:s.size<4294967281)(ha:∀(j:Nat) b,s.data.toList[j]? = some b→b.toNat<128)(hT:SpTab w) :
 Calls Tryz.prog 236 #[.string s] w fun e w'=>e=.returned (.slice (some ⟨w.heap.size,0,none⟩) (Lib.fields s.data.toList).length (Lib.fields s.data.toList).length)∧w'=w.alloc (.cells ((Lib.fields s.data.toList).map fun l=>Value.string ⟨l.toArray⟩).toArray 9) :=
 Any.strings_Fields Tryz.lays157 (by kernel_rfl) (by kernel_rfl) s w hs ha hT
theorem contains_at(b n c:Nat)(zs:List ByteArray)(x:ByteArray)(w:World)(hz:n≤zs.length)(hbig:n≤9223372036854775807)(hc:∀j,j<zs.length→w.cell? ⟨b,0+j,none⟩=some (.string (zs.getD j ByteArray.empty))) :
 Calls Tryz.prog 243 #[.slice (some ⟨b,0,none⟩) n c,.string x] w fun e w'=>e=.returned (.bool (Lib.containsS (zs.take n) x))∧w'=w :=
 Any.slices_Contains_string Tryz.lays110 b 0 n c zs x w hz hbig hc
def Nmd(s:ByteArray):Prop:=0<s.size∧s.size≤9∧Lib.trimS s.data.toList upper.data.toList=[]
instance (s:ByteArray):Decidable (Nmd s):=by unfold Nmd;infer_instance
theorem named_ok(s:ByteArray)(hs:Nmd s)(w:World) :
 Calls Tryz.prog 242 #[.string s] w fun e w'=>e=.returned (.bool true)∧Below w.heap.size w w':=by
 obtain ⟨h1,h2,h3⟩:=hs
 have C:=hid (trim_at s w (by omega))
 rw [h3] at C
 clear h3
 have hne:¬s.toList=[]:=by
  intro h
  have:=congrArg List.length h
  rw [Lib.toList_data,←Lib.size_eq] at this
  have:s.size=0:=this
  omega
 have hem:s.toList.isEmpty=false:=by
  cases h:s.toList with
  | nil=>exact absurd h hne
  | cons=>rfl
 have hsz:(s.size:Int)≤9:=by omega
 clear h1
 go_enter Tryz.func242,Tryz.ntmps242
 go_wp2_with fail
 refine (C.out).mono ?_
 rintro e w' ⟨rfl,hB⟩
 go_wp2
 go_ret
 exact ⟨ret_bool (by simp),hB⟩
end Go.Proofs.YtpgckpafjiojfaaGreatDoor.BW
namespace Go.Proofs.YtpgckpafjiojfaaGreatDoor.BW
open Go.RowKit BM Go.Shelf
open BK hiding ret_bool ret_i64
def specV(lo hi:Int)(names:Value)(wk:Bool):Array Value:=#[.int .i64 lo,.int .i64 hi,names,.bool wk]
theorem fcheck_plain(lo hi:Int)(h0:0≤lo)(h1:lo≤hi)(h2:hi≤62)(w:World) :
 Calls Tryz.prog 234 #[.agg (specV lo hi (.slice none 0 0) false)] w fun e w'=>e=.returned (.int .i64 0)∧Below w.heap.size w w':=by
 unfold specV
 go_enter Tryz.func234,Tryz.ntmps234
 go_wp2
 go_loop [4,5,54] (fun _ _ s54=>s54=.int .i64 0) (fun _ _ _=>0)
 case atStart=>rfl
 case round =>
  subst hrel
  go_wp2
  go_ret
  exact ⟨rfl,(Below.refl _ _).alloc (Nat.le_refl _) _⟩
def intM:Value→Nat
 | .int _ m=>m.toNat
 | _=>0
theorem fcheck_names(lo hi:Int)(wk:Bool)(n:Nat)(hk:lo=1∧hi=12∧wk=false∧n=12∨lo=0∧hi=6∧wk=true∧n=7)(b:Nat)(zs:List ByteArray)(hzs:zs.length=n)(w:World)
 (hc:∀j,j<n→w.cell? ⟨b,j,none⟩=some (.string (zs.getD j ByteArray.empty)))
 (hN:∀j,j<n→Nmd (zs.getD j ByteArray.empty)∧Lib.containsS (zs.take j) (zs.getD j ByteArray.empty)=false) :
 Calls Tryz.prog 234 #[.agg (specV lo hi (.slice (some ⟨b,0,none⟩) n n) wk)] w fun e w'=>e=.returned (.int .i64 0)∧Below w.heap.size w w':=by
 have hb:b<w.heap.size:=World.block_lt_of_cell? w _ (hc 0 (by omega))
 have HC:=hid hc
 have HN:=hid hN
 have HZ:=hid hzs
 clear hc hN hzs
 unfold specV
 rcases hk with ⟨rfl,rfl,rfl,rfl⟩|⟨rfl,rfl,rfl,rfl⟩
 all_goals
  go_enter Tryz.func234,Tryz.ntmps234
  go_wp2
  go_loopw [4,5,54] (fun _ _ s54 wr=>∃k:Nat,k≤zs.length∧s54=.int .i64 k∧Below (w.heap.size+1) (w.alloc (.cells (specV _ _ _ _) 276)) wr) (fun _ _ s54 _=>20 - intM s54)
  case atStart=>exact ⟨0,by omega,rfl,Below.refl _ _⟩
  case round =>
   obtain ⟨k,hk,rfl,hB⟩:=hrel
   have hz:=HZ.out
   have hbox:Blk wr w.heap.size 276 (specV _ _ _ _):=Blk.below (Blk.new w _ _) hB (by omega)
   have c2:wr.cell? ⟨w.heap.size,2,none⟩=some (.slice (some ⟨b,0,none⟩) _ _):=hbox.cell 2
   rw [hz] at hk
   rcases Nat.lt_or_ge k zs.length with hlt|hge
   ·rw [hz] at hlt
    have hck:wr.cell? ⟨b,k,none⟩=some (.string (zs.getD k ByteArray.empty)):=(hB.cell (p:=⟨b,k,none⟩) (by simp;omega)).trans ((World.cell?_alloc_old _ _ _ (by simp;omega)).trans (HC.out k hlt))
    obtain ⟨hn1,hn2⟩:=HN.out k hlt
    have CN:=hid (fun W=>named_ok _ hn1 W)
    have CC:=hid (fun c W h=>contains_at b k c zs (zs.getD k ByteArray.empty) W (by omega) (by omega) h)
    have HCK:=hid (show ∀j,j<zs.length→wr.cell? ⟨b,0+j,none⟩=some (.string (zs.getD j ByteArray.empty)) from fun j hj=>by
     rw [Nat.zero_add]
     exact (hB.cell (p:=⟨b,j,none⟩) (by simp;omega)).trans ((World.cell?_alloc_old _ _ _ (by simp;omega)).trans (HC.out j (by omega))))
    rw [hn2] at CC
    clear hn2 hn1
    generalize zs.getD k ByteArray.empty=z at *
    have hsz:=hB.size
    simp only [World.size_alloc] at hsz
    go_wp2_with fail
    refine (CN.out _).mono ?_
    rintro e w' ⟨rfl,hB2⟩
    have c2':w'.cell? ⟨w.heap.size,2,none⟩=some (.slice (some ⟨b,0,none⟩) _ _):=(hB2.cell (p:=⟨w.heap.size,2,none⟩) (by simp;omega)).trans c2
    go_wp2_with fail
    refine (CC.out _ _ (fun j hj=>(hB2.cell (p:=⟨b,0+j,none⟩) (by simp;omega)).trans (HCK.out j hj))).mono ?_
    rintro e w' ⟨rfl,rfl⟩
    go_wp2_with fail
    refine ⟨⟨k+1,by omega,by go_num,hB.trans (hB2.mono (by omega))⟩,?_⟩
    simp [intM];omega
   ·rw [hz] at hge
    obtain rfl:k=_:=Nat.le_antisymm hk hge
    go_wp2
    go_ret
    exact ⟨rfl,((Below.refl _ w).alloc (Nat.le_refl _) _).trans (hB.mono (by omega))⟩
theorem SpTab.below{w w':World}(h:SpTab w)(hb:Below w.heap.size w w'):SpTab w':=by
 unfold SpTab Lib.TabIs World.var? at *
 cases hg:Tryz.prog.globalNamed "strings.asciiSpace" with
 | none=>simp [hg] at h
 | some g =>
  simp only [hg,Option.bind_some] at h ⊢
  have hlt:g<w.heap.size:=by
   rcases Nat.lt_or_ge g w.heap.size with h'|h'
   ·exact h'
   ·rw [Array.getElem?_eq_none h'] at h;simp at h
  rw [hb.block g hlt]
  exact h
theorem months_len:(Lib.fields months.data.toList).length=12:=by decide +kernel
theorem weekdays_len:(Lib.fields weekdays.data.toList).length=7:=by decide +kernel
theorem months_ascii:∀(j:Nat) b,months.data.toList[j]? = some b→b.toNat<128:=ascii_of_all (by decide)
theorem weekdays_ascii:∀(j:Nat) b,weekdays.data.toList[j]? = some b→b.toNat<128:=ascii_of_all (by decide)
def mcells:Array Value:=((Lib.fields months.data.toList).map fun l=>Value.string ⟨l.toArray⟩).toArray
def dcells:Array Value:=((Lib.fields weekdays.data.toList).map fun l=>Value.string ⟨l.toArray⟩).toArray
def nil0:Value:=.slice none 0 0
def scells(a:Nat):Array Value:=#[.int .i64 0,.int .i64 59,nil0,.bool false,.int .i64 0,.int .i64 59,nil0,.bool false,.int .i64 0,.int .i64 23,nil0,.bool false,.int .i64 1,.int .i64 31,nil0,.bool false,
 .int .i64 1,.int .i64 12,.slice (some ⟨a,0,none⟩) 12 12,.bool false,.int .i64 0,.int .i64 6,.slice (some ⟨a+1,0,none⟩) 7 7,.bool true]
def specsW(w:World):World:=((w.alloc (.cells mcells 9)).alloc (.cells dcells 9)).alloc (.cells (scells w.heap.size) 276)
theorem specs_ok(w:World)(hT:SpTab w):Calls Tryz.prog 226 #[] w fun e w'=>e=.returned (.slice (some ⟨w.heap.size+2,0,none⟩) 6 6)∧w'=specsW w:=by
 have C1:=hid (fields_at months w (by decide) months_ascii hT)
 have C2:=hid (fields_at weekdays (w.alloc (.cells mcells 9)) (by decide) weekdays_ascii (hT.below ((Below.refl _ w).alloc (Nat.le_refl _) _)))
 rw [months_len] at C1
 rw [weekdays_len] at C2
 go_enter Tryz.func226,Tryz.ntmps226
 go_wp2_with fail
 refine (C1.out).mono ?_
 rintro e w' ⟨rfl,rfl⟩
 go_wp2_with fail
 refine (C2.out).mono ?_
 rintro e w' ⟨rfl,rfl⟩
 go_wp2_with fail
 go_ret
 exact ⟨by simp,rfl⟩
def fullN(i:Nat):Nat:=[1152921504606846975,1152921504606846975,16777215,4294967294,8190,127].getD i 0
theorem ffull_of(lo hi:Int)(nm:Value)(wk:Bool)(m:Nat)(hr:rangeR lo hi 1=(m,0))(w:World)
 (hC:∀W,Below w.heap.size w W→Calls Tryz.prog 234 #[.agg (specV lo hi nm wk)] W fun e w'=>e=.returned (.int .i64 0)∧Below W.heap.size W w') :
 Calls Tryz.prog 225 #[.agg (specV lo hi nm wk)] w fun e w'=>e=.returned (.tuple #[.int .u64 m,.int .i64 0])∧Below w.heap.size w w':=by
 have C:=hid (hC (w.alloc (.cells (specV lo hi nm wk) 276)) ((Below.refl _ w).alloc (Nat.le_refl _) _))
 have R:=hid (fun W=>range_ok lo hi 1 W)
 rw [hr] at R
 clear hC hr
 unfold specV at *
 go_enter Tryz.func225,Tryz.ntmps225
 go_wp2_with fail
 refine (C.out).mono ?_
 rintro e w' ⟨rfl,hB⟩
 simp only [World.size_alloc] at hB
 have hbox:Blk w' w.heap.size 276 _:=Blk.below (Blk.new w _ _) hB (by omega)
 have c0:w'.cell? ⟨w.heap.size,0,none⟩=some (.int .i64 lo):=hbox.cell 0
 have c1:w'.cell? ⟨w.heap.size,1,none⟩=some (.int .i64 hi):=hbox.cell 1
 go_wp2_with fail
 refine (R.out _).mono ?_
 rintro e w' ⟨rfl,rfl⟩
 go_wp2_with fail
 go_ret2
 exact ⟨rfl,((Below.refl _ w).alloc (Nat.le_refl _) _).trans (hB.mono (by omega))⟩
theorem specs_blk(w:World):Blk (specsW w) (w.heap.size+2) 276 (scells w.heap.size):=Blk.newAt (by simp)
theorem specs_months(w:World):Blk (specsW w) w.heap.size 9 mcells:=((Blk.new w _ _).alloc _).alloc _
theorem specs_days(w:World):Blk (specsW w) (w.heap.size+1) 9 dcells:=(Blk.newAt (by simp)).alloc _
theorem specs_below(w:World):Below w.heap.size w (specsW w):=(((Below.refl _ w).alloc (Nat.le_refl _) _).alloc (by simp) _).alloc (by simp;omega) _
theorem names_of(l:List (List UInt8))(n:Nat)(hl:l.length=n)(w:World)(b:Nat)(hb:Blk w b 9 (l.map fun x=>Value.string ⟨x.toArray⟩).toArray) :
 (l.map fun x=>(⟨x.toArray⟩:ByteArray)).length=n∧∀j,j<n→w.cell? ⟨b,j,none⟩=some (.string ((l.map fun x=>(⟨x.toArray⟩:ByteArray)).getD j ByteArray.empty)):=by
 refine ⟨by simpa using hl,fun j hj=>?_⟩
 rw [hb.cell j]
 have hj':j<l.length:=by omega
 simp [hj',List.getD]
theorem names_fit(l:List ByteArray)(n:Nat)(h:((List.range n).all fun j=>decide (Nmd (l.getD j ByteArray.empty))&&!Lib.containsS (l.take j) (l.getD j ByteArray.empty))=true) :
 ∀j,j<n→Nmd (l.getD j ByteArray.empty)∧Lib.containsS (l.take j) (l.getD j ByteArray.empty)=false:=fun j hj=>by
 have:=List.all_eq_true.1 h j (List.mem_range.2 hj)
 simpa using this
theorem months_fit:∀j,j<12→Nmd (monthsL.getD j ByteArray.empty)∧Lib.containsS (monthsL.take j) (monthsL.getD j ByteArray.empty)=false:=names_fit _ _ (by decide +kernel)
theorem weekdays_fit:∀j,j<7→Nmd (weekdaysL.getD j ByteArray.empty)∧Lib.containsS (weekdaysL.take j) (weekdaysL.getD j ByteArray.empty)=false:=names_fit _ _ (by decide +kernel)
theorem ffull_plain(lo hi:Int)(h0:0≤lo)(h1:lo≤hi)(h2:hi≤62)(m:Nat)(hr:rangeR lo hi 1=(m,0))(w:World) :
 Calls Tryz.prog 225 #[.agg (specV lo hi nil0 false)] w fun e w'=>e=.returned (.tuple #[.int .u64 m,.int .i64 0])∧Below w.heap.size w w' :=
 ffull_of lo hi nil0 false m hr w (fun W _=>fcheck_plain lo hi h0 h1 h2 W)
theorem ffull_months(w:World)(b:Nat)(hb:Blk w b 9 mcells) :
 Calls Tryz.prog 225 #[.agg (specV 1 12 (.slice (some ⟨b,0,none⟩) 12 12) false)] w fun e w'=>e=.returned (.tuple #[.int .u64 (fullN 4:Nat),.int .i64 0])∧Below w.heap.size w w' :=
 ffull_of 1 12 _ false (fullN 4) (by decide +kernel) w (fun W hW=>by
  obtain ⟨h1,h2⟩:=names_of _ 12 months_len W b (hb.below hW hb.lt)
  exact fcheck_names 1 12 false 12 (.inl ⟨rfl,rfl,rfl,rfl⟩) b monthsL h1 W h2 months_fit)
theorem ffull_days(w:World)(b:Nat)(hb:Blk w b 9 dcells) :
 Calls Tryz.prog 225 #[.agg (specV 0 6 (.slice (some ⟨b,0,none⟩) 7 7) true)] w fun e w'=>e=.returned (.tuple #[.int .u64 (fullN 5:Nat),.int .i64 0])∧Below w.heap.size w w' :=
 ffull_of 0 6 _ true (fullN 5) (by decide +kernel) w (fun W hW=>by
  obtain ⟨h1,h2⟩:=names_of _ 7 weekdays_len W b (hb.below hW hb.lt)
  exact fcheck_names 0 6 true 7 (.inr ⟨rfl,rfl,rfl,rfl⟩) b weekdaysL h1 W h2 weekdays_fit)
theorem efull_ok(i:Nat)(hi:i<6)(w:World)(hT:SpTab w) :
 Calls Tryz.prog 213 #[.int .i64 i] w fun e w'=>e=.returned (.int .u64 (fullN i:Nat))∧Below w.heap.size w w':=by
 have C:=hid (specs_ok w hT)
 have hb:=specs_blk w
 have BL:=hid (specs_below w)
 have F0:=hid (ffull_plain 0 59 (by decide) (by decide) (by decide) (fullN 0) (by decide +kernel) (specsW w))
 have F2:=hid (ffull_plain 0 23 (by decide) (by decide) (by decide) (fullN 2) (by decide +kernel) (specsW w))
 have F3:=hid (ffull_plain 1 31 (by decide) (by decide) (by decide) (fullN 3) (by decide +kernel) (specsW w))
 have F4:=hid (ffull_months (specsW w) _ (specs_months w))
 have F5:=hid (ffull_days (specsW w) _ (specs_days w))
 have hsz:(specsW w).heap.size=w.heap.size+3:=by simp [specsW]
 have hc:∀k,(specsW w).cell? ⟨w.heap.size+2,k,none⟩=(scells w.heap.size)[k]?:=hb.cell
 have HC:=hid hc
 have HS:=hid hsz
 generalize specsW w=W at *
 clear hb hc hsz
 obtain rfl|rfl|rfl|rfl|rfl|rfl:i=0∨i=1∨i=2∨i=3∨i=4∨i=5:=by omega
 ·have c0:W.cell? ⟨w.heap.size+2,0,none⟩=some (.int .i64 0):=HC.out 0
  have c1:W.cell? ⟨w.heap.size+2,1,none⟩=some (.int .i64 59):=HC.out 1
  have c2:W.cell? ⟨w.heap.size+2,2,none⟩=some nil0:=HC.out 2
  have c3:W.cell? ⟨w.heap.size+2,3,none⟩=some (.bool false):=HC.out 3
  go_enter Tryz.func213,Tryz.ntmps213
  go_wp2_with fail
  refine (C.out).mono ?_
  rintro e w' ⟨rfl,rfl⟩
  go_wp2_with fail
  refine (F0.out).mono ?_
  rintro e w' ⟨rfl,hB⟩
  go_wp2_with fail
  go_ret
  exact ⟨rfl,BL.out.trans (hB.mono (by have:=HS.out;omega))⟩
 ·have c0:W.cell? ⟨w.heap.size+2,4,none⟩=some (.int .i64 0):=HC.out 4
  have c1:W.cell? ⟨w.heap.size+2,5,none⟩=some (.int .i64 59):=HC.out 5
  have c2:W.cell? ⟨w.heap.size+2,6,none⟩=some (nil0):=HC.out 6
  have c3:W.cell? ⟨w.heap.size+2,7,none⟩=some (.bool false):=HC.out 7
  go_enter Tryz.func213,Tryz.ntmps213
  go_wp2_with fail
  refine (C.out).mono ?_
  rintro e w' ⟨rfl,rfl⟩
  go_wp2_with fail
  refine (F0.out).mono ?_
  rintro e w' ⟨rfl,hB⟩
  go_wp2_with fail
  go_ret
  exact ⟨rfl,BL.out.trans (hB.mono (by have:=HS.out;omega))⟩
 ·have c0:W.cell? ⟨w.heap.size+2,8,none⟩=some (.int .i64 0):=HC.out 8
  have c1:W.cell? ⟨w.heap.size+2,9,none⟩=some (.int .i64 23):=HC.out 9
  have c2:W.cell? ⟨w.heap.size+2,10,none⟩=some (nil0):=HC.out 10
  have c3:W.cell? ⟨w.heap.size+2,11,none⟩=some (.bool false):=HC.out 11
  go_enter Tryz.func213,Tryz.ntmps213
  go_wp2_with fail
  refine (C.out).mono ?_
  rintro e w' ⟨rfl,rfl⟩
  go_wp2_with fail
  refine (F2.out).mono ?_
  rintro e w' ⟨rfl,hB⟩
  go_wp2_with fail
  go_ret
  exact ⟨rfl,BL.out.trans (hB.mono (by have:=HS.out;omega))⟩
 ·have c0:W.cell? ⟨w.heap.size+2,12,none⟩=some (.int .i64 1):=HC.out 12
  have c1:W.cell? ⟨w.heap.size+2,13,none⟩=some (.int .i64 31):=HC.out 13
  have c2:W.cell? ⟨w.heap.size+2,14,none⟩=some (nil0):=HC.out 14
  have c3:W.cell? ⟨w.heap.size+2,15,none⟩=some (.bool false):=HC.out 15
  go_enter Tryz.func213,Tryz.ntmps213
  go_wp2_with fail
  refine (C.out).mono ?_
  rintro e w' ⟨rfl,rfl⟩
  go_wp2_with fail
  refine (F3.out).mono ?_
  rintro e w' ⟨rfl,hB⟩
  go_wp2_with fail
  go_ret
  exact ⟨rfl,BL.out.trans (hB.mono (by have:=HS.out;omega))⟩
 ·have c0:W.cell? ⟨w.heap.size+2,16,none⟩=some (.int .i64 1):=HC.out 16
  have c1:W.cell? ⟨w.heap.size+2,17,none⟩=some (.int .i64 12):=HC.out 17
  have c2:W.cell? ⟨w.heap.size+2,18,none⟩=some (.slice (some ⟨w.heap.size,0,none⟩) 12 12):=HC.out 18
  have c3:W.cell? ⟨w.heap.size+2,19,none⟩=some (.bool false):=HC.out 19
  go_enter Tryz.func213,Tryz.ntmps213
  go_wp2_with fail
  refine (C.out).mono ?_
  rintro e w' ⟨rfl,rfl⟩
  go_wp2_with fail
  refine (F4.out).mono ?_
  rintro e w' ⟨rfl,hB⟩
  go_wp2_with fail
  go_ret
  exact ⟨rfl,BL.out.trans (hB.mono (by have:=HS.out;omega))⟩
 ·have c0:W.cell? ⟨w.heap.size+2,20,none⟩=some (.int .i64 0):=HC.out 20
  have c1:W.cell? ⟨w.heap.size+2,21,none⟩=some (.int .i64 6):=HC.out 21
  have c2:W.cell? ⟨w.heap.size+2,22,none⟩=some (.slice (some ⟨w.heap.size+1,0,none⟩) 7 7):=HC.out 22
  have c3:W.cell? ⟨w.heap.size+2,23,none⟩=some (.bool true):=HC.out 23
  go_enter Tryz.func213,Tryz.ntmps213
  go_wp2_with fail
  refine (C.out).mono ?_
  rintro e w' ⟨rfl,rfl⟩
  go_wp2_with fail
  refine (F5.out).mono ?_
  rintro e w' ⟨rfl,hB⟩
  go_wp2_with fail
  go_ret
  exact ⟨rfl,BL.out.trans (hB.mono (by have:=HS.out;omega))⟩
end Go.Proofs.YtpgckpafjiojfaaGreatDoor.BW
