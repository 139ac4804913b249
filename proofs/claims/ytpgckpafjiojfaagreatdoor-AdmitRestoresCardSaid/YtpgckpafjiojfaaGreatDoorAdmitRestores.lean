/- AdmitRestores: for every input the law returns true. The tables of the library are tied to the program's text by the card. -/
import Derived.Test.YtpgckpafjiojfaaGreatDoorAKu
import Derived.Test.YtpgckpafjiojfaaGreatDoorCards
import Derived.Test.YtpgckpafjiojfaaGreatDoorTie
import Derived.SevenTiedAt
import Derived.LaidOnce
import Derived.Stop.Joined
import Derived.ChangeMaps5
namespace Go.Proofs.YtpgckpafjiojfaaGreatDoor
open Go.ChangeShapes Go.WideShapes Go.ChangeAt Go.WideMaps Go.WideElems Go.RowKit BW RK AD
set_option linter.unusedVariables false
set_option maxRecDepth 100000 in
theorem admitRestores_lifted(os:Os)(started:os.Started)(H:Type)(enc:TypeId × Value→H) :
 ReturnsInHanded {} Tryz.checked os 6 .any (fun w args=>(Rows.admitRestoresSpec.pre enc Tryz.prog Tryz.f6 [] false w args∧laidMetH Tryz.prog lay w)∧sizedMet enc Tryz.prog Tryz.f6 (OpenSpec.ofChange Rows.admitRestoresSpec) false w args)
  (Rows.admitRestoresSpec.post enc Tryz.prog Tryz.f6 false true false false):=by
 refine returnsInHanded_of_change_and (C:=Tryz.checked) (X:=fun w _=>laidMetH Tryz.prog lay w) (fun _ _ _ hh h=>h.of_heap hh) own started (by kernel_rfl) Tryz.func6
  (ChangeSpec.witness_shaped (enc:=enc) (C:=Tryz.checked) (os:=os) (X:=fun w _=>laidMetH Tryz.prog lay w) false (World.laidAll Tryz.prog os lay) #[.agg #[.int .i64 0,.int .i64 0,.int .i64 0,.int .i64 0,.int .u64 0,.int .i64 0,.int .i64 0,.slice none 0 0],.agg #[.slice none 0 0,.slice none 0 0,.slice none 0 0],.int .i64 0,.slice none 0 0] 8 (World.laidAll_os _ _ _) (World.shaped_of_ZipB (by kernel_rfl) (by kernel_rfl)) (by kernel_rfl) (by kernel_rfl) (by kernel_rfl) (door_met os _)) ?_
 intro W base args ds gs before hval0 hW _ _ hL _
 have hval:∀(j:Nat) t v,Tryz.f6.params[j]? = some t→args[j]? = some v→Value.okWide Tryz.prog W .any base t v:=hval0
 have hW':=hW
 obtain ⟨p,q,hA0,hV,rfl,hfz,hnd⟩:=hW
 have hA:DataW.TrodAll enc Tryz.prog W 0 (fun _=>true) true Tryz.f6.params.toList args.toList ds p:=hA0
 have hAA:=hA
 rw [Tryz.params6] at hA hval
 obtain ⟨v0,vs0,d0,ds0,p0,q0,hargs,rfl,rfl,h0,r0⟩:=trodAll_cons hA
 obtain ⟨v1,vs1,d1,ds1,p1,q1,rfl,rfl,rfl,h1,r1⟩:=trodAll_cons r0
 obtain ⟨v2,vs2,d2,ds2,p2,q2,rfl,rfl,rfl,h2,r2⟩:=trodAll_cons r1
 obtain ⟨v3,vs3,d3,ds3,p3,q3,rfl,rfl,rfl,h3,r3⟩:=trodAll_cons r2
 obtain ⟨rfl,rfl,rfl⟩:=trodAll_nil r3
 obtain rfl:args=#[v0,v1,v2,v3]:=by cases args;simp_all
 obtain ⟨rfl,rfl⟩:=trodVars_none hV
 obtain ⟨x0,l0,rfl,b0⟩:=open_cfg (hval 0 31 v0 rfl rfl) h0
 obtain ⟨rs1,ts1,bs1,ra1,rq1,ta1,tq1,ba1,bq1,rfl,b1⟩:=AD.open_state (hval 1 91 v1 rfl rfl) h1
 obtain ⟨a2,rfl,rfl,rfl,w2⟩:=open_int Tryz.underlying2 (hval 2 2 v2 rfl rfl) h2
 obtain ⟨L3,a3,n3,k3,rfl,b3,l3,m3,z3⟩:=AD.open_steps (hval 3 80 v3 rfl rfl) h3
 have hT:=of_laid hL
 refine (AD.restores_walk x0 l0 rs1 ts1 bs1 ra1 rq1 ta1 tq1 ba1 bq1 a2 a3 L3 n3 k3 l3 m3 z3 W b0 b1 b3 hT.2 hT.1).mono fun e W' ⟨he,bel⟩=>?_
 subst he
 exact ⟨_,rfl,post_of_below (pa:=_) (pv:=[]) hW' (fun _ _ _=>trodAll_mk1 (shut_bool Tryz.underlying4 _)) (fun sp hsp=>trodAll_stays (by kernel_rfl) (by kernel_rfl) hAA (fun x hx=>bel.same (hW'.lt x (List.mem_append_left _ hx))) (fun x hx=>hsp x (List.mem_append_left _ hx))) (fun _ _=>rfl) rfl bel (ok_one (by kernel_rfl) rfl (okWide_bool_mk Tryz.underlying4 _))⟩
set_option maxHeartbeats 0 in
theorem admitRestores_facts:joinedFacts Tryz.prog 6 Tryz.f6 Rows.admitRestoresSpec Rows.admitRestoresRow=true:=by
 unfold joinedFacts
 simp only [Bool.and_eq_true]
 repeat' apply And.intro
 all_goals decide +kernel
theorem admitRestores_said:Rows.AdmitRestoresSaid :=
 OpenClaim.holds_of_wide 6 Tryz.f6 rfl rfl rfl rfl rfl rfl rfl ⟨rfl,rfl,rfl,rfl,rfl⟩ rfl rfl rfl rfl rfl (by kernel_rfl) Tryz.func6 admitRestores_facts
  (of_decide_eq_true (by kernel_rfl)) (by unfold Func.isWrapper;first|(rw [if_pos (by decide +kernel)];kernel_rfl)|(rw [if_neg (by decide +kernel)];exact ⟨rfl,rfl⟩))
  (fun os started H enc _=>admitRestores_lifted os started H enc)
theorem admitRestores_proved:Rows.AdmitRestoresCardSaid :=
 Claim7.holds_tied_plain_at .later [] [.data,.data,.listed,.data,.pinned] true (true,Rows.admitRestoresCard.stood.harness.2) false
  admitRestores_said (fun _ h=>by cases h) (by kernel_rfl) (fun _ h=>by cases h) admitRestores_row_tie rfl ⟨rfl,rfl⟩ (by kernel_rfl) rfl
  (fun f fn hf hfn=>by
   obtain rfl:f=6:=Option.some.inj ((show Tryz.prog.funcNamed "wakeman/wakemanlaw35.AdmitRestores" = some 6 by kernel_rfl).symm.trans hf) |>.symm
   obtain rfl:fn=Tryz.f6:=(Option.some.inj (Tryz.func6.symm.trans hfn)).symm
   exact ⟨by kernel_rfl,fun j t ht=>by
    rw [Tryz.params6] at ht
    have hm:t∈[31,91,2,80]:=by simpa using Array.mem_of_getElem? ht
    have hall:([31,91,2,80].all fun u=>!Tryz.prog.wantsStandIn u)=true:=by kernel_rfl
    exact (show Tryz.prog.wantsStandIn t=false by simpa using List.all_eq_true.1 hall t hm)⟩)
  (by kernel_rfl)
#print axioms admitRestores_proved
end Go.Proofs.YtpgckpafjiojfaaGreatDoor
