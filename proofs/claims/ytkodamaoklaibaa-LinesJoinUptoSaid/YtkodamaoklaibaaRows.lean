/-
  No cell of these rows narrows 'for every input' (looked for: loops, veiled, ifaces, maps, wideKeys, modest, calm, conditions, laid).
  DERIVED. THE GIVEN ROWS OF THIS SEAT. 3 by the template 'for every input the law returns true; each argument reads behind the call as it read before'; 0 by the template 'total and deterministic' (their statements: YtkodamaoklaibaaTotals.lean).
  GIVEN WITH THE SEED: the statements are not yours to turn. If you find one false, say at which input.
  Laid BY PROGRAM, IN A SANDBOX (cutbox-rows.mjs): the forced cells as the released guide's own fill.sh prints them over the translation 6203fe6b9422c643… (all of the seat's roots in one cut). By AI agents, Wed Nov 11 2026. No macro, syntax, notation, axiom, sorry.
-/
import Derived.Test.YtkodamaoklaibaaChecked
import GoSem.Claim
import GoSem.ClaimJoined
import GoSem.ClaimMapViews
import Derived.JoinedTies
import Derived.KernelRfl
namespace Go.Proofs.Ytkodamaoklaibaa
/- THE CELL 'sum', in the pinned program and in every row, IS THE sha256 OF THE DUMP (.gsa) THAT YtkodamaoklaibaaProg.lean LOADS. Nothing in Lean hashes anything: it is a label: what it is worth is what the hold of that sum in a sandbox is worth. -/
noncomputable def Try.pinned : Pinned := { name := "ytkodamaoklaibaa", sum := "6203fe6b9422c6433041005b88162439bba16ab4016d6ac76df3f94986706904", checked := Try.checked }
namespace Rows
def none {H : Type} : Left H := { results := [], args := [] }

/-- 'redlinelaw02.LinesBare': WHATEVER THE INPUT: true; the input reads as it did. -/
def linesBareSpec : ChangeSpec := { name := "linesBare", fn := fun _ => fun
  | [d] => { results := [.lit (.bool true)], args := [d] }
  | _ => none }
def linesBareRow : OpenClaim := { program := "ytkodamaoklaibaa", sum := "6203fe6b9422c6433041005b88162439bba16ab4016d6ac76df3f94986706904", func := "redline/redlinelaw02.LinesBare", spec := "linesBare", inPlace := ["internal/bytealg.IndexByteString"], apart := false }
def LinesBareSaid : Prop := linesBareRow.holds Try.pinned (OpenSpec.ofChange linesBareSpec)

/-- ITS FALSE NEIGHBOUR: 'it returns false'. Refute it at one input. -/
def linesBareWrong : ChangeSpec := { name := "linesBare", fn := fun _ => fun
  | [d] => { results := [.lit (.bool false)], args := [d] }
  | _ => none }
def LinesBareWrongFalsely : Prop := linesBareRow.holds Try.pinned (OpenSpec.ofChange linesBareWrong)

/-- 'redlinelaw02.LinesFirst': WHATEVER THE INPUT: true; the input reads as it did. -/
def linesFirstSpec : ChangeSpec := { name := "linesFirst", fn := fun _ => fun
  | [d1, d2] => { results := [.lit (.bool true)], args := [d1, d2] }
  | _ => none }
def linesFirstRow : OpenClaim := { program := "ytkodamaoklaibaa", sum := "6203fe6b9422c6433041005b88162439bba16ab4016d6ac76df3f94986706904", func := "redline/redlinelaw02.LinesFirst", spec := "linesFirst", inPlace := ["internal/bytealg.CountString", "internal/bytealg.IndexByteString", "internal/bytealg.IndexString"], named := ["internal/bytealg.MaxLen"], apart := false }
def LinesFirstSaid : Prop := linesFirstRow.holds Try.pinned (OpenSpec.ofChange linesFirstSpec)

/-- ITS FALSE NEIGHBOUR: 'it returns false'. Refute it at one input. -/
def linesFirstWrong : ChangeSpec := { name := "linesFirst", fn := fun _ => fun
  | [d1, d2] => { results := [.lit (.bool false)], args := [d1, d2] }
  | _ => none }
def LinesFirstWrongFalsely : Prop := linesFirstRow.holds Try.pinned (OpenSpec.ofChange linesFirstWrong)

/-- 'redlinelaw02.LinesJoin': WHATEVER THE INPUT: true; the input reads as it did. -/
def linesJoinSpec : ChangeSpec := { name := "linesJoin", fn := fun _ => fun
  | [d] => { results := [.lit (.bool true)], args := [d] }
  | _ => none }
def linesJoinRow : OpenClaim := { program := "ytkodamaoklaibaa", sum := "6203fe6b9422c6433041005b88162439bba16ab4016d6ac76df3f94986706904", func := "redline/redlinelaw02.LinesJoin", spec := "linesJoin", inPlace := ["internal/abi.NoEscape", "internal/bytealg.MakeNoZero", "internal/bytealg.IndexByteString", "internal/bytealg.IndexString"], named := ["internal/bytealg.MaxLen"], apart := false }
def LinesJoinSaid : Prop := linesJoinRow.holds Try.pinned (OpenSpec.ofChange linesJoinSpec)

/-- ITS FALSE NEIGHBOUR: 'it returns false'. Refute it at one input. -/
def linesJoinWrong : ChangeSpec := { name := "linesJoin", fn := fun _ => fun
  | [d] => { results := [.lit (.bool false)], args := [d] }
  | _ => none }
def LinesJoinWrongFalsely : Prop := linesJoinRow.holds Try.pinned (OpenSpec.ofChange linesJoinWrong)

/- THE SECOND FORM. 'bulk': how many values and letters a reading holds, each counted each time it is reached (what is shared counts as often as it is met; a slice's spare places count too). A statement '..UptoSaid' is the law's where the arguments, and the package variables that the reading takes, are together of bulk at most 1048576: NARROWER than '..Said'. Prove '..Said' where nothing that the law and all that it calls make is longer than what came in: it says more and counts as full. Else prove '..UptoSaid'. A law counts once. -/
mutual
def uptoBulk {H : Type} : DataW H → Nat
  | .lit (.string bytes) => bytes.length + 1
  | .lit _ => 1
  | .nil => 1
  | .ptr d => uptoBulk d + 1
  | .slice elems spare => uptoBulkAll elems + uptoBulkAll spare + 1
  | .agg parts => uptoBulkAll parts + 1
  | .iface _ d => uptoBulk d + 1
  | .map entries => uptoBulkEntries entries + 1
  | .held _ => 1
def uptoBulkAll {H : Type} : List (DataW H) → Nat
  | [] => 0
  | d :: r => uptoBulk d + uptoBulkAll r
def uptoBulkEntries {H : Type} : List (Lit × DataW H) → Nat
  | [] => 0
  | x :: r => uptoBulkEntry x + uptoBulkEntries r
def uptoBulkEntry {H : Type} : Lit × DataW H → Nat
  | (.string bytes, d) => bytes.length + uptoBulk d + 1
  | (_, d) => uptoBulk d + 1
 end
def uptoSmall : (H : Type) → List (DataW H) → Bool := fun _ ds => decide (uptoBulkAll ds ≤ 1048576)
def OpenSpec.upto (s : _root_.Go.ChangeSpec) : _root_.Go.OpenSpec := { _root_.Go.OpenSpec.ofChange s with cond := some uptoSmall }

/-- 'redlinelaw02.LinesBare', WHERE WHAT IT READS IS OF BULK AT MOST 1048576: true; the input reads as it did. -/
def linesBareUptoRow : OpenClaim := { program := "ytkodamaoklaibaa", sum := "6203fe6b9422c6433041005b88162439bba16ab4016d6ac76df3f94986706904", func := "redline/redlinelaw02.LinesBare", spec := "linesBare", inPlace := ["internal/bytealg.IndexByteString"], apart := false, narrowed := true }
def LinesBareUptoSaid : Prop := linesBareUptoRow.holds Try.pinned (OpenSpec.upto linesBareSpec)

/-- 'redlinelaw02.LinesFirst', WHERE WHAT IT READS IS OF BULK AT MOST 1048576: true; the input reads as it did. -/
def linesFirstUptoRow : OpenClaim := { program := "ytkodamaoklaibaa", sum := "6203fe6b9422c6433041005b88162439bba16ab4016d6ac76df3f94986706904", func := "redline/redlinelaw02.LinesFirst", spec := "linesFirst", inPlace := ["internal/bytealg.CountString", "internal/bytealg.IndexByteString", "internal/bytealg.IndexString"], named := ["internal/bytealg.MaxLen"], apart := false, narrowed := true }
def LinesFirstUptoSaid : Prop := linesFirstUptoRow.holds Try.pinned (OpenSpec.upto linesFirstSpec)

/-- 'redlinelaw02.LinesJoin', WHERE WHAT IT READS IS OF BULK AT MOST 1048576: true; the input reads as it did. -/
def linesJoinUptoRow : OpenClaim := { program := "ytkodamaoklaibaa", sum := "6203fe6b9422c6433041005b88162439bba16ab4016d6ac76df3f94986706904", func := "redline/redlinelaw02.LinesJoin", spec := "linesJoin", inPlace := ["internal/abi.NoEscape", "internal/bytealg.MakeNoZero", "internal/bytealg.IndexByteString", "internal/bytealg.IndexString"], named := ["internal/bytealg.MaxLen"], apart := false, narrowed := true }
def LinesJoinUptoSaid : Prop := linesJoinUptoRow.holds Try.pinned (OpenSpec.upto linesJoinSpec)

end Rows
end Go.Proofs.Ytkodamaoklaibaa
