/-
  No cell of these rows narrows 'for every input' (looked for: loops, veiled, ifaces, maps, wideKeys, modest, calm, conditions, laid).
  DERIVED. THE GIVEN ROWS OF THIS SEAT. 8 by the template 'for every input the law returns true; each argument reads behind the call as it read before'; 0 by the template 'total and deterministic' (their statements: YtfeblkoconjakaaTotals.lean).
  GIVEN WITH THE SEED: the statements are not yours to turn. If you find one false, say at which input.
  Laid BY PROGRAM, IN A SANDBOX (cutbox-rows.mjs): the forced cells as the released guide's own fill.sh prints them over the translation 866c8aab9e91dfa8… (all of the seat's roots in one cut). By AI agents, Wed Nov 11 2026. No macro, syntax, notation, axiom, sorry.
-/
import Derived.Test.YtfeblkoconjakaaChecked
import GoSem.Claim
import GoSem.ClaimJoined
import GoSem.ClaimMapViews
import Derived.JoinedTies
import Derived.KernelRfl
namespace Go.Proofs.Ytfeblkoconjakaa
/- THE CELL 'sum', in the pinned program and in every row, IS THE sha256 OF THE DUMP (.gsa) THAT YtfeblkoconjakaaProg.lean LOADS. Nothing in Lean hashes anything: it is a label: what it is worth is what the hold of that sum in a sandbox is worth. -/
noncomputable def Try.pinned : Pinned := { name := "ytfeblkoconjakaa", sum := "866c8aab9e91dfa8f3bc65dd55f9a926ad688a2dd7e3bb1f8939a8b6d649ad66", checked := Try.checked }
namespace Rows
def none {H : Type} : Left H := { results := [], args := [] }

/-- 'wakemanlaw26.BreakerFailures': WHATEVER THE INPUT: true; the input reads as it did. -/
def breakerFailuresSpec : ChangeSpec := { name := "breakerFailures", fn := fun _ => fun
  | [d1, d2] => { results := [.lit (.bool true)], args := [d1, d2] }
  | _ => none }
def breakerFailuresRow : OpenClaim := { program := "ytfeblkoconjakaa", sum := "866c8aab9e91dfa8f3bc65dd55f9a926ad688a2dd7e3bb1f8939a8b6d649ad66", func := "wakeman/wakemanlaw26.BreakerFailures", spec := "breakerFailures", unfollowed := true, recurses := true, apart := false }
def BreakerFailuresSaid : Prop := breakerFailuresRow.holds Try.pinned (OpenSpec.ofChange breakerFailuresSpec)

/-- ITS FALSE NEIGHBOUR: 'it returns false'. Refute it at one input. -/
def breakerFailuresWrong : ChangeSpec := { name := "breakerFailures", fn := fun _ => fun
  | [d1, d2] => { results := [.lit (.bool false)], args := [d1, d2] }
  | _ => none }
def BreakerFailuresWrongFalsely : Prop := breakerFailuresRow.holds Try.pinned (OpenSpec.ofChange breakerFailuresWrong)

/-- 'wakemanlaw26.BreakerProbes': WHATEVER THE INPUT: true; the input reads as it did. -/
def breakerProbesSpec : ChangeSpec := { name := "breakerProbes", fn := fun _ => fun
  | [d1, d2] => { results := [.lit (.bool true)], args := [d1, d2] }
  | _ => none }
def breakerProbesRow : OpenClaim := { program := "ytfeblkoconjakaa", sum := "866c8aab9e91dfa8f3bc65dd55f9a926ad688a2dd7e3bb1f8939a8b6d649ad66", func := "wakeman/wakemanlaw26.BreakerProbes", spec := "breakerProbes", unfollowed := true, recurses := true, apart := false }
def BreakerProbesSaid : Prop := breakerProbesRow.holds Try.pinned (OpenSpec.ofChange breakerProbesSpec)

/-- ITS FALSE NEIGHBOUR: 'it returns false'. Refute it at one input. -/
def breakerProbesWrong : ChangeSpec := { name := "breakerProbes", fn := fun _ => fun
  | [d1, d2] => { results := [.lit (.bool false)], args := [d1, d2] }
  | _ => none }
def BreakerProbesWrongFalsely : Prop := breakerProbesRow.holds Try.pinned (OpenSpec.ofChange breakerProbesWrong)

/-- 'wakemanlaw26.BreakerPauses': WHATEVER THE INPUT: true; the input reads as it did. -/
def breakerPausesSpec : ChangeSpec := { name := "breakerPauses", fn := fun _ => fun
  | [d1, d2, d3] => { results := [.lit (.bool true)], args := [d1, d2, d3] }
  | _ => none }
def breakerPausesRow : OpenClaim := { program := "ytfeblkoconjakaa", sum := "866c8aab9e91dfa8f3bc65dd55f9a926ad688a2dd7e3bb1f8939a8b6d649ad66", func := "wakeman/wakemanlaw26.BreakerPauses", spec := "breakerPauses", unfollowed := true, recurses := true, apart := false }
def BreakerPausesSaid : Prop := breakerPausesRow.holds Try.pinned (OpenSpec.ofChange breakerPausesSpec)

/-- ITS FALSE NEIGHBOUR: 'it returns false'. Refute it at one input. -/
def breakerPausesWrong : ChangeSpec := { name := "breakerPauses", fn := fun _ => fun
  | [d1, d2, d3] => { results := [.lit (.bool false)], args := [d1, d2, d3] }
  | _ => none }
def BreakerPausesWrongFalsely : Prop := breakerPausesRow.holds Try.pinned (OpenSpec.ofChange breakerPausesWrong)

/-- 'wakemanlaw26.BreakerNever': WHATEVER THE INPUT: true; the input reads as it did. -/
def breakerNeverSpec : ChangeSpec := { name := "breakerNever", fn := fun _ => fun
  | [d] => { results := [.lit (.bool true)], args := [d] }
  | _ => none }
def breakerNeverRow : OpenClaim := { program := "ytfeblkoconjakaa", sum := "866c8aab9e91dfa8f3bc65dd55f9a926ad688a2dd7e3bb1f8939a8b6d649ad66", func := "wakeman/wakemanlaw26.BreakerNever", spec := "breakerNever", unfollowed := true, recurses := true, apart := false }
def BreakerNeverSaid : Prop := breakerNeverRow.holds Try.pinned (OpenSpec.ofChange breakerNeverSpec)

/-- ITS FALSE NEIGHBOUR: 'it returns false'. Refute it at one input. -/
def breakerNeverWrong : ChangeSpec := { name := "breakerNever", fn := fun _ => fun
  | [d] => { results := [.lit (.bool false)], args := [d] }
  | _ => none }
def BreakerNeverWrongFalsely : Prop := breakerNeverRow.holds Try.pinned (OpenSpec.ofChange breakerNeverWrong)

/-- 'wakemanlaw26.BreakerPlays': WHATEVER THE INPUT: true; the input reads as it did. -/
def breakerPlaysSpec : ChangeSpec := { name := "breakerPlays", fn := fun _ => fun
  | [d1, d2] => { results := [.lit (.bool true)], args := [d1, d2] }
  | _ => none }
def breakerPlaysRow : OpenClaim := { program := "ytfeblkoconjakaa", sum := "866c8aab9e91dfa8f3bc65dd55f9a926ad688a2dd7e3bb1f8939a8b6d649ad66", func := "wakeman/wakemanlaw26.BreakerPlays", spec := "breakerPlays", unfollowed := true, recurses := true, apart := false }
def BreakerPlaysSaid : Prop := breakerPlaysRow.holds Try.pinned (OpenSpec.ofChange breakerPlaysSpec)

/-- ITS FALSE NEIGHBOUR: 'it returns false'. Refute it at one input. -/
def breakerPlaysWrong : ChangeSpec := { name := "breakerPlays", fn := fun _ => fun
  | [d1, d2] => { results := [.lit (.bool false)], args := [d1, d2] }
  | _ => none }
def BreakerPlaysWrongFalsely : Prop := breakerPlaysRow.holds Try.pinned (OpenSpec.ofChange breakerPlaysWrong)

/-- 'wakemanlaw26.BreakerNil': WHATEVER THE INPUT: true; the input reads as it did. -/
def breakerNilSpec : ChangeSpec := { name := "breakerNil", fn := fun _ => fun
  | [d1, d2] => { results := [.lit (.bool true)], args := [d1, d2] }
  | _ => none }
def breakerNilRow : OpenClaim := { program := "ytfeblkoconjakaa", sum := "866c8aab9e91dfa8f3bc65dd55f9a926ad688a2dd7e3bb1f8939a8b6d649ad66", func := "wakeman/wakemanlaw26.BreakerNil", spec := "breakerNil", unfollowed := true, recurses := true, apart := false }
def BreakerNilSaid : Prop := breakerNilRow.holds Try.pinned (OpenSpec.ofChange breakerNilSpec)

/-- ITS FALSE NEIGHBOUR: 'it returns false'. Refute it at one input. -/
def breakerNilWrong : ChangeSpec := { name := "breakerNil", fn := fun _ => fun
  | [d1, d2] => { results := [.lit (.bool false)], args := [d1, d2] }
  | _ => none }
def BreakerNilWrongFalsely : Prop := breakerNilRow.holds Try.pinned (OpenSpec.ofChange breakerNilWrong)

/-- 'wakemanlaw26.BreakerKeeps': WHATEVER THE INPUT: true; the input reads as it did. -/
def breakerKeepsSpec : ChangeSpec := { name := "breakerKeeps", fn := fun _ => fun
  | [d1, d2, d3] => { results := [.lit (.bool true)], args := [d1, d2, d3] }
  | _ => none }
def breakerKeepsRow : OpenClaim := { program := "ytfeblkoconjakaa", sum := "866c8aab9e91dfa8f3bc65dd55f9a926ad688a2dd7e3bb1f8939a8b6d649ad66", func := "wakeman/wakemanlaw26.BreakerKeeps", spec := "breakerKeeps", unfollowed := true, recurses := true, apart := false }
def BreakerKeepsSaid : Prop := breakerKeepsRow.holds Try.pinned (OpenSpec.ofChange breakerKeepsSpec)

/-- ITS FALSE NEIGHBOUR: 'it returns false'. Refute it at one input. -/
def breakerKeepsWrong : ChangeSpec := { name := "breakerKeeps", fn := fun _ => fun
  | [d1, d2, d3] => { results := [.lit (.bool false)], args := [d1, d2, d3] }
  | _ => none }
def BreakerKeepsWrongFalsely : Prop := breakerKeepsRow.holds Try.pinned (OpenSpec.ofChange breakerKeepsWrong)

/-- 'wakemanlaw26.BreakerCopies': WHATEVER THE INPUT: true; the input reads as it did. -/
def breakerCopiesSpec : ChangeSpec := { name := "breakerCopies", fn := fun _ => fun
  | [d1, d2, d3] => { results := [.lit (.bool true)], args := [d1, d2, d3] }
  | _ => none }
def breakerCopiesRow : OpenClaim := { program := "ytfeblkoconjakaa", sum := "866c8aab9e91dfa8f3bc65dd55f9a926ad688a2dd7e3bb1f8939a8b6d649ad66", func := "wakeman/wakemanlaw26.BreakerCopies", spec := "breakerCopies", unfollowed := true, recurses := true, apart := false }
def BreakerCopiesSaid : Prop := breakerCopiesRow.holds Try.pinned (OpenSpec.ofChange breakerCopiesSpec)

/-- ITS FALSE NEIGHBOUR: 'it returns false'. Refute it at one input. -/
def breakerCopiesWrong : ChangeSpec := { name := "breakerCopies", fn := fun _ => fun
  | [d1, d2, d3] => { results := [.lit (.bool false)], args := [d1, d2, d3] }
  | _ => none }
def BreakerCopiesWrongFalsely : Prop := breakerCopiesRow.holds Try.pinned (OpenSpec.ofChange breakerCopiesWrong)

/- THE SECOND FORM. 'bulk': how many values and letters a reading holds, each counted each time it is reached (what is shared counts as often as it is met; a slice's spare places count too). A statement '..UptoSaid' is the law's where the arguments, and the package variables that the reading takes, are together of bulk at most 1048576: NARROWER than '..Said'. Prove '..Said' where nothing that the law and all that it calls make is longer than what came in: it says more and counts as full. Else prove '..UptoSaid'. A law counts once. -/
mutual
def uptoBulk {H : Type} : DataW H → Nat
  | .lit (.string bytes) => bytes.length + 1
  | .lit _ => 1
  | .nil => 1
  | .ptr d => uptoBulk d + 1
  | .slice elems spare => uptoBulkAll elems + uptoBulkAll spare + 1
  | .agg parts => uptoBulkAll parts + 1
  | .iface _ d => uptoBulk d + 1
  | .map entries => uptoBulkEntries entries + 1
  | .held _ => 1
def uptoBulkAll {H : Type} : List (DataW H) → Nat
  | [] => 0
  | d :: r => uptoBulk d + uptoBulkAll r
def uptoBulkEntries {H : Type} : List (Lit × DataW H) → Nat
  | [] => 0
  | x :: r => uptoBulkEntry x + uptoBulkEntries r
def uptoBulkEntry {H : Type} : Lit × DataW H → Nat
  | (.string bytes, d) => bytes.length + uptoBulk d + 1
  | (_, d) => uptoBulk d + 1
 end
def uptoSmall : (H : Type) → List (DataW H) → Bool := fun _ ds => decide (uptoBulkAll ds ≤ 1048576)
def OpenSpec.upto (s : _root_.Go.ChangeSpec) : _root_.Go.OpenSpec := { _root_.Go.OpenSpec.ofChange s with cond := some uptoSmall }

/-- 'wakemanlaw26.BreakerFailures', WHERE WHAT IT READS IS OF BULK AT MOST 1048576: true; the input reads as it did. -/
def breakerFailuresUptoRow : OpenClaim := { program := "ytfeblkoconjakaa", sum := "866c8aab9e91dfa8f3bc65dd55f9a926ad688a2dd7e3bb1f8939a8b6d649ad66", func := "wakeman/wakemanlaw26.BreakerFailures", spec := "breakerFailures", unfollowed := true, recurses := true, apart := false, narrowed := true }
def BreakerFailuresUptoSaid : Prop := breakerFailuresUptoRow.holds Try.pinned (OpenSpec.upto breakerFailuresSpec)

/-- 'wakemanlaw26.BreakerProbes', WHERE WHAT IT READS IS OF BULK AT MOST 1048576: true; the input reads as it did. -/
def breakerProbesUptoRow : OpenClaim := { program := "ytfeblkoconjakaa", sum := "866c8aab9e91dfa8f3bc65dd55f9a926ad688a2dd7e3bb1f8939a8b6d649ad66", func := "wakeman/wakemanlaw26.BreakerProbes", spec := "breakerProbes", unfollowed := true, recurses := true, apart := false, narrowed := true }
def BreakerProbesUptoSaid : Prop := breakerProbesUptoRow.holds Try.pinned (OpenSpec.upto breakerProbesSpec)

/-- 'wakemanlaw26.BreakerPauses', WHERE WHAT IT READS IS OF BULK AT MOST 1048576: true; the input reads as it did. -/
def breakerPausesUptoRow : OpenClaim := { program := "ytfeblkoconjakaa", sum := "866c8aab9e91dfa8f3bc65dd55f9a926ad688a2dd7e3bb1f8939a8b6d649ad66", func := "wakeman/wakemanlaw26.BreakerPauses", spec := "breakerPauses", unfollowed := true, recurses := true, apart := false, narrowed := true }
def BreakerPausesUptoSaid : Prop := breakerPausesUptoRow.holds Try.pinned (OpenSpec.upto breakerPausesSpec)

/-- 'wakemanlaw26.BreakerNever', WHERE WHAT IT READS IS OF BULK AT MOST 1048576: true; the input reads as it did. -/
def breakerNeverUptoRow : OpenClaim := { program := "ytfeblkoconjakaa", sum := "866c8aab9e91dfa8f3bc65dd55f9a926ad688a2dd7e3bb1f8939a8b6d649ad66", func := "wakeman/wakemanlaw26.BreakerNever", spec := "breakerNever", unfollowed := true, recurses := true, apart := false, narrowed := true }
def BreakerNeverUptoSaid : Prop := breakerNeverUptoRow.holds Try.pinned (OpenSpec.upto breakerNeverSpec)

/-- 'wakemanlaw26.BreakerPlays', WHERE WHAT IT READS IS OF BULK AT MOST 1048576: true; the input reads as it did. -/
def breakerPlaysUptoRow : OpenClaim := { program := "ytfeblkoconjakaa", sum := "866c8aab9e91dfa8f3bc65dd55f9a926ad688a2dd7e3bb1f8939a8b6d649ad66", func := "wakeman/wakemanlaw26.BreakerPlays", spec := "breakerPlays", unfollowed := true, recurses := true, apart := false, narrowed := true }
def BreakerPlaysUptoSaid : Prop := breakerPlaysUptoRow.holds Try.pinned (OpenSpec.upto breakerPlaysSpec)

/-- 'wakemanlaw26.BreakerNil', WHERE WHAT IT READS IS OF BULK AT MOST 1048576: true; the input reads as it did. -/
def breakerNilUptoRow : OpenClaim := { program := "ytfeblkoconjakaa", sum := "866c8aab9e91dfa8f3bc65dd55f9a926ad688a2dd7e3bb1f8939a8b6d649ad66", func := "wakeman/wakemanlaw26.BreakerNil", spec := "breakerNil", unfollowed := true, recurses := true, apart := false, narrowed := true }
def BreakerNilUptoSaid : Prop := breakerNilUptoRow.holds Try.pinned (OpenSpec.upto breakerNilSpec)

/-- 'wakemanlaw26.BreakerKeeps', WHERE WHAT IT READS IS OF BULK AT MOST 1048576: true; the input reads as it did. -/
def breakerKeepsUptoRow : OpenClaim := { program := "ytfeblkoconjakaa", sum := "866c8aab9e91dfa8f3bc65dd55f9a926ad688a2dd7e3bb1f8939a8b6d649ad66", func := "wakeman/wakemanlaw26.BreakerKeeps", spec := "breakerKeeps", unfollowed := true, recurses := true, apart := false, narrowed := true }
def BreakerKeepsUptoSaid : Prop := breakerKeepsUptoRow.holds Try.pinned (OpenSpec.upto breakerKeepsSpec)

/-- 'wakemanlaw26.BreakerCopies', WHERE WHAT IT READS IS OF BULK AT MOST 1048576: true; the input reads as it did. -/
def breakerCopiesUptoRow : OpenClaim := { program := "ytfeblkoconjakaa", sum := "866c8aab9e91dfa8f3bc65dd55f9a926ad688a2dd7e3bb1f8939a8b6d649ad66", func := "wakeman/wakemanlaw26.BreakerCopies", spec := "breakerCopies", unfollowed := true, recurses := true, apart := false, narrowed := true }
def BreakerCopiesUptoSaid : Prop := breakerCopiesUptoRow.holds Try.pinned (OpenSpec.upto breakerCopiesSpec)

end Rows
end Go.Proofs.Ytfeblkoconjakaa
