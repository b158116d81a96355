/-
  No cell of these rows narrows 'for every input' (looked for: loops, veiled, ifaces, maps, wideKeys, modest, calm, conditions, laid).
  DERIVED. THE GIVEN ROWS OF THIS SEAT. 6 by the template 'for every input the law returns true; each argument reads behind the call as it read before'; 0 by the template 'total and deterministic' (their statements: YtpkhfeeelkhkaaaTotals.lean).
  GIVEN WITH THE SEED: the statements are not yours to turn. If you find one false, say at which input.
  Laid BY PROGRAM, IN A SANDBOX (cutbox-rows.mjs): the forced cells as the released guide's own fill.sh prints them over the translation ad45ff0e0394e9c1… (all of the seat's roots in one cut). By AI agents, Wed Nov 11 2026. No macro, syntax, notation, axiom, sorry.
-/
import Derived.Test.YtpkhfeeelkhkaaaChecked
import GoSem.Claim
import GoSem.ClaimJoined
import GoSem.ClaimMapViews
import Derived.JoinedTies
import Derived.KernelRfl
namespace Go.Proofs.Ytpkhfeeelkhkaaa
/- THE CELL 'sum', in the pinned program and in every row, IS THE sha256 OF THE DUMP (.gsa) THAT YtpkhfeeelkhkaaaProg.lean LOADS. Nothing in Lean hashes anything: it is a label: what it is worth is what the hold of that sum in a sandbox is worth. -/
noncomputable def Try.pinned : Pinned := { name := "ytpkhfeeelkhkaaa", sum := "ad45ff0e0394e9c1eea50148a34fa5bfdbe3effeb0587728e193ca81865bf1f8", checked := Try.checked }
namespace Rows
def none {H : Type} : Left H := { results := [], args := [] }

/-- 'redlinelaw05.EditsApplies': WHATEVER THE INPUT: true; the input reads as it did. -/
def editsAppliesSpec : ChangeSpec := { name := "editsApplies", fn := fun _ => fun
  | [d1, d2, d3] => { results := [.lit (.bool true)], args := [d1, d2, d3] }
  | _ => none }
def editsAppliesRow : OpenClaim := { program := "ytpkhfeeelkhkaaa", sum := "ad45ff0e0394e9c1eea50148a34fa5bfdbe3effeb0587728e193ca81865bf1f8", func := "redline/redlinelaw05.EditsApplies", spec := "editsApplies", unfollowed := true, recurses := true, apart := false }
def EditsAppliesSaid : Prop := editsAppliesRow.holds Try.pinned (OpenSpec.ofChange editsAppliesSpec)

/-- ITS FALSE NEIGHBOUR: 'it returns false'. Refute it at one input. -/
def editsAppliesWrong : ChangeSpec := { name := "editsApplies", fn := fun _ => fun
  | [d1, d2, d3] => { results := [.lit (.bool false)], args := [d1, d2, d3] }
  | _ => none }
def EditsAppliesWrongFalsely : Prop := editsAppliesRow.holds Try.pinned (OpenSpec.ofChange editsAppliesWrong)

/-- 'redlinelaw05.EditsChecks': WHATEVER THE INPUT: true; the input reads as it did. -/
def editsChecksSpec : ChangeSpec := { name := "editsChecks", fn := fun _ => fun
  | [d1, d2, d3] => { results := [.lit (.bool true)], args := [d1, d2, d3] }
  | _ => none }
def editsChecksRow : OpenClaim := { program := "ytpkhfeeelkhkaaa", sum := "ad45ff0e0394e9c1eea50148a34fa5bfdbe3effeb0587728e193ca81865bf1f8", func := "redline/redlinelaw05.EditsChecks", spec := "editsChecks", unfollowed := true, recurses := true, apart := false }
def EditsChecksSaid : Prop := editsChecksRow.holds Try.pinned (OpenSpec.ofChange editsChecksSpec)

/-- ITS FALSE NEIGHBOUR: 'it returns false'. Refute it at one input. -/
def editsChecksWrong : ChangeSpec := { name := "editsChecks", fn := fun _ => fun
  | [d1, d2, d3] => { results := [.lit (.bool false)], args := [d1, d2, d3] }
  | _ => none }
def EditsChecksWrongFalsely : Prop := editsChecksRow.holds Try.pinned (OpenSpec.ofChange editsChecksWrong)

/-- 'redlinelaw05.EditsComposes': WHATEVER THE INPUT: true; the input reads as it did. -/
def editsComposesSpec : ChangeSpec := { name := "editsComposes", fn := fun _ => fun
  | [d1, d2, d3, d4, d5] => { results := [.lit (.bool true)], args := [d1, d2, d3, d4, d5] }
  | _ => none }
def editsComposesRow : OpenClaim := { program := "ytpkhfeeelkhkaaa", sum := "ad45ff0e0394e9c1eea50148a34fa5bfdbe3effeb0587728e193ca81865bf1f8", func := "redline/redlinelaw05.EditsComposes", spec := "editsComposes", unfollowed := true, recurses := true, apart := false }
def EditsComposesSaid : Prop := editsComposesRow.holds Try.pinned (OpenSpec.ofChange editsComposesSpec)

/-- ITS FALSE NEIGHBOUR: 'it returns false'. Refute it at one input. -/
def editsComposesWrong : ChangeSpec := { name := "editsComposes", fn := fun _ => fun
  | [d1, d2, d3, d4, d5] => { results := [.lit (.bool false)], args := [d1, d2, d3, d4, d5] }
  | _ => none }
def EditsComposesWrongFalsely : Prop := editsComposesRow.holds Try.pinned (OpenSpec.ofChange editsComposesWrong)

/-- 'redlinelaw05.EditsBack': WHATEVER THE INPUT: true; the input reads as it did. -/
def editsBackSpec : ChangeSpec := { name := "editsBack", fn := fun _ => fun
  | [d1, d2] => { results := [.lit (.bool true)], args := [d1, d2] }
  | _ => none }
def editsBackRow : OpenClaim := { program := "ytpkhfeeelkhkaaa", sum := "ad45ff0e0394e9c1eea50148a34fa5bfdbe3effeb0587728e193ca81865bf1f8", func := "redline/redlinelaw05.EditsBack", spec := "editsBack", unfollowed := true, recurses := true, apart := false }
def EditsBackSaid : Prop := editsBackRow.holds Try.pinned (OpenSpec.ofChange editsBackSpec)

/-- ITS FALSE NEIGHBOUR: 'it returns false'. Refute it at one input. -/
def editsBackWrong : ChangeSpec := { name := "editsBack", fn := fun _ => fun
  | [d1, d2] => { results := [.lit (.bool false)], args := [d1, d2] }
  | _ => none }
def EditsBackWrongFalsely : Prop := editsBackRow.holds Try.pinned (OpenSpec.ofChange editsBackWrong)

/-- 'redlinelaw05.EditsChain': WHATEVER THE INPUT: true; the input reads as it did. -/
def editsChainSpec : ChangeSpec := { name := "editsChain", fn := fun _ => fun
  | [d1, d2, d3, d4] => { results := [.lit (.bool true)], args := [d1, d2, d3, d4] }
  | _ => none }
def editsChainRow : OpenClaim := { program := "ytpkhfeeelkhkaaa", sum := "ad45ff0e0394e9c1eea50148a34fa5bfdbe3effeb0587728e193ca81865bf1f8", func := "redline/redlinelaw05.EditsChain", spec := "editsChain", unfollowed := true, recurses := true, apart := false }
def EditsChainSaid : Prop := editsChainRow.holds Try.pinned (OpenSpec.ofChange editsChainSpec)

/-- ITS FALSE NEIGHBOUR: 'it returns false'. Refute it at one input. -/
def editsChainWrong : ChangeSpec := { name := "editsChain", fn := fun _ => fun
  | [d1, d2, d3, d4] => { results := [.lit (.bool false)], args := [d1, d2, d3, d4] }
  | _ => none }
def EditsChainWrongFalsely : Prop := editsChainRow.holds Try.pinned (OpenSpec.ofChange editsChainWrong)

/-- 'redlinelaw05.EditsReach': WHATEVER THE INPUT: true; the input reads as it did. -/
def editsReachSpec : ChangeSpec := { name := "editsReach", fn := fun _ => fun
  | [d1, d2, d3] => { results := [.lit (.bool true)], args := [d1, d2, d3] }
  | _ => none }
def editsReachRow : OpenClaim := { program := "ytpkhfeeelkhkaaa", sum := "ad45ff0e0394e9c1eea50148a34fa5bfdbe3effeb0587728e193ca81865bf1f8", func := "redline/redlinelaw05.EditsReach", spec := "editsReach", unfollowed := true, recurses := true, apart := false }
def EditsReachSaid : Prop := editsReachRow.holds Try.pinned (OpenSpec.ofChange editsReachSpec)

/-- ITS FALSE NEIGHBOUR: 'it returns false'. Refute it at one input. -/
def editsReachWrong : ChangeSpec := { name := "editsReach", fn := fun _ => fun
  | [d1, d2, d3] => { results := [.lit (.bool false)], args := [d1, d2, d3] }
  | _ => none }
def EditsReachWrongFalsely : Prop := editsReachRow.holds Try.pinned (OpenSpec.ofChange editsReachWrong)

/- THE SECOND FORM. 'bulk': how many values and letters a reading holds, each counted each time it is reached (what is shared counts as often as it is met; a slice's spare places count too). A statement '..UptoSaid' is the law's where the arguments, and the package variables that the reading takes, are together of bulk at most 1048576: NARROWER than '..Said'. Prove '..Said' where nothing that the law and all that it calls make is longer than what came in: it says more and counts as full. Else prove '..UptoSaid'. A law counts once. -/
mutual
def uptoBulk {H : Type} : DataW H → Nat
  | .lit (.string bytes) => bytes.length + 1
  | .lit _ => 1
  | .nil => 1
  | .ptr d => uptoBulk d + 1
  | .slice elems spare => uptoBulkAll elems + uptoBulkAll spare + 1
  | .agg parts => uptoBulkAll parts + 1
  | .iface _ d => uptoBulk d + 1
  | .map entries => uptoBulkEntries entries + 1
  | .held _ => 1
def uptoBulkAll {H : Type} : List (DataW H) → Nat
  | [] => 0
  | d :: r => uptoBulk d + uptoBulkAll r
def uptoBulkEntries {H : Type} : List (Lit × DataW H) → Nat
  | [] => 0
  | x :: r => uptoBulkEntry x + uptoBulkEntries r
def uptoBulkEntry {H : Type} : Lit × DataW H → Nat
  | (.string bytes, d) => bytes.length + uptoBulk d + 1
  | (_, d) => uptoBulk d + 1
 end
def uptoSmall : (H : Type) → List (DataW H) → Bool := fun _ ds => decide (uptoBulkAll ds ≤ 1048576)
def OpenSpec.upto (s : _root_.Go.ChangeSpec) : _root_.Go.OpenSpec := { _root_.Go.OpenSpec.ofChange s with cond := some uptoSmall }

/-- 'redlinelaw05.EditsApplies', WHERE WHAT IT READS IS OF BULK AT MOST 1048576: true; the input reads as it did. -/
def editsAppliesUptoRow : OpenClaim := { program := "ytpkhfeeelkhkaaa", sum := "ad45ff0e0394e9c1eea50148a34fa5bfdbe3effeb0587728e193ca81865bf1f8", func := "redline/redlinelaw05.EditsApplies", spec := "editsApplies", unfollowed := true, recurses := true, apart := false, narrowed := true }
def EditsAppliesUptoSaid : Prop := editsAppliesUptoRow.holds Try.pinned (OpenSpec.upto editsAppliesSpec)

/-- 'redlinelaw05.EditsChecks', WHERE WHAT IT READS IS OF BULK AT MOST 1048576: true; the input reads as it did. -/
def editsChecksUptoRow : OpenClaim := { program := "ytpkhfeeelkhkaaa", sum := "ad45ff0e0394e9c1eea50148a34fa5bfdbe3effeb0587728e193ca81865bf1f8", func := "redline/redlinelaw05.EditsChecks", spec := "editsChecks", unfollowed := true, recurses := true, apart := false, narrowed := true }
def EditsChecksUptoSaid : Prop := editsChecksUptoRow.holds Try.pinned (OpenSpec.upto editsChecksSpec)

/-- 'redlinelaw05.EditsComposes', WHERE WHAT IT READS IS OF BULK AT MOST 1048576: true; the input reads as it did. -/
def editsComposesUptoRow : OpenClaim := { program := "ytpkhfeeelkhkaaa", sum := "ad45ff0e0394e9c1eea50148a34fa5bfdbe3effeb0587728e193ca81865bf1f8", func := "redline/redlinelaw05.EditsComposes", spec := "editsComposes", unfollowed := true, recurses := true, apart := false, narrowed := true }
def EditsComposesUptoSaid : Prop := editsComposesUptoRow.holds Try.pinned (OpenSpec.upto editsComposesSpec)

/-- 'redlinelaw05.EditsBack', WHERE WHAT IT READS IS OF BULK AT MOST 1048576: true; the input reads as it did. -/
def editsBackUptoRow : OpenClaim := { program := "ytpkhfeeelkhkaaa", sum := "ad45ff0e0394e9c1eea50148a34fa5bfdbe3effeb0587728e193ca81865bf1f8", func := "redline/redlinelaw05.EditsBack", spec := "editsBack", unfollowed := true, recurses := true, apart := false, narrowed := true }
def EditsBackUptoSaid : Prop := editsBackUptoRow.holds Try.pinned (OpenSpec.upto editsBackSpec)

/-- 'redlinelaw05.EditsChain', WHERE WHAT IT READS IS OF BULK AT MOST 1048576: true; the input reads as it did. -/
def editsChainUptoRow : OpenClaim := { program := "ytpkhfeeelkhkaaa", sum := "ad45ff0e0394e9c1eea50148a34fa5bfdbe3effeb0587728e193ca81865bf1f8", func := "redline/redlinelaw05.EditsChain", spec := "editsChain", unfollowed := true, recurses := true, apart := false, narrowed := true }
def EditsChainUptoSaid : Prop := editsChainUptoRow.holds Try.pinned (OpenSpec.upto editsChainSpec)

/-- 'redlinelaw05.EditsReach', WHERE WHAT IT READS IS OF BULK AT MOST 1048576: true; the input reads as it did. -/
def editsReachUptoRow : OpenClaim := { program := "ytpkhfeeelkhkaaa", sum := "ad45ff0e0394e9c1eea50148a34fa5bfdbe3effeb0587728e193ca81865bf1f8", func := "redline/redlinelaw05.EditsReach", spec := "editsReach", unfollowed := true, recurses := true, apart := false, narrowed := true }
def EditsReachUptoSaid : Prop := editsReachUptoRow.holds Try.pinned (OpenSpec.upto editsReachSpec)

end Rows
end Go.Proofs.Ytpkhfeeelkhkaaa
