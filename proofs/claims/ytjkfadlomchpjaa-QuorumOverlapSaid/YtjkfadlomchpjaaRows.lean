/-
  No cell of these rows narrows 'for every input' (looked for: loops, veiled, ifaces, maps, wideKeys, modest, calm, conditions, laid).
  DERIVED. THE GIVEN ROWS OF THIS SEAT. 4 by the template 'for every input the law returns true; each argument reads behind the call as it read before'; 0 by the template 'total and deterministic' (their statements: YtjkfadlomchpjaaTotals.lean).
  GIVEN WITH THE SEED: the statements are not yours to turn. If you find one false, say at which input.
  Laid BY PROGRAM, IN A SANDBOX (cutbox-rows.mjs): the forced cells as the released guide's own fill.sh prints them over the translation 1b8905e122bedd38… (all of the seat's roots in one cut). By AI agents, Wed Nov 11 2026. No macro, syntax, notation, axiom, sorry.
-/
import Derived.Test.YtjkfadlomchpjaaChecked
import GoSem.Claim
import GoSem.ClaimJoined
import GoSem.ClaimMapViews
import Derived.JoinedTies
import Derived.KernelRfl
namespace Go.Proofs.Ytjkfadlomchpjaa
/- THE CELL 'sum', in the pinned program and in every row, IS THE sha256 OF THE DUMP (.gsa) THAT YtjkfadlomchpjaaProg.lean LOADS. Nothing in Lean hashes anything: it is a label: what it is worth is what the hold of that sum in a sandbox is worth. -/
noncomputable def Try.pinned : Pinned := { name := "ytjkfadlomchpjaa", sum := "1b8905e122bedd386dbd9b7b0e2b87d9edb98cd97bc1c132ba858ea3cef36b81", checked := Try.checked }
namespace Rows
def none {H : Type} : Left H := { results := [], args := [] }

/-- 'workflowlaw53.QuorumIndex': WHATEVER THE INPUT: true; the input reads as it did. -/
def quorumIndexSpec : ChangeSpec := { name := "quorumIndex", fn := fun _ => fun
  | [d1, d2, d3] => { results := [.lit (.bool true)], args := [d1, d2, d3] }
  | _ => none }
def quorumIndexRow : OpenClaim := { program := "ytjkfadlomchpjaa", sum := "1b8905e122bedd386dbd9b7b0e2b87d9edb98cd97bc1c132ba858ea3cef36b81", func := "workflow/workflowlaw53.QuorumIndex", spec := "quorumIndex", unfollowed := true, recurses := true, apart := false }
def QuorumIndexSaid : Prop := quorumIndexRow.holds Try.pinned (OpenSpec.ofChange quorumIndexSpec)

/-- ITS FALSE NEIGHBOUR: 'it returns false'. Refute it at one input. -/
def quorumIndexWrong : ChangeSpec := { name := "quorumIndex", fn := fun _ => fun
  | [d1, d2, d3] => { results := [.lit (.bool false)], args := [d1, d2, d3] }
  | _ => none }
def QuorumIndexWrongFalsely : Prop := quorumIndexRow.holds Try.pinned (OpenSpec.ofChange quorumIndexWrong)

/-- 'workflowlaw53.QuorumCommits': WHATEVER THE INPUT: true; the input reads as it did. -/
def quorumCommitsSpec : ChangeSpec := { name := "quorumCommits", fn := fun _ => fun
  | [d1, d2] => { results := [.lit (.bool true)], args := [d1, d2] }
  | _ => none }
def quorumCommitsRow : OpenClaim := { program := "ytjkfadlomchpjaa", sum := "1b8905e122bedd386dbd9b7b0e2b87d9edb98cd97bc1c132ba858ea3cef36b81", func := "workflow/workflowlaw53.QuorumCommits", spec := "quorumCommits", unfollowed := true, recurses := true, apart := false }
def QuorumCommitsSaid : Prop := quorumCommitsRow.holds Try.pinned (OpenSpec.ofChange quorumCommitsSpec)

/-- ITS FALSE NEIGHBOUR: 'it returns false'. Refute it at one input. -/
def quorumCommitsWrong : ChangeSpec := { name := "quorumCommits", fn := fun _ => fun
  | [d1, d2] => { results := [.lit (.bool false)], args := [d1, d2] }
  | _ => none }
def QuorumCommitsWrongFalsely : Prop := quorumCommitsRow.holds Try.pinned (OpenSpec.ofChange quorumCommitsWrong)

/-- 'workflowlaw53.QuorumAnswers': WHATEVER THE INPUT: true; the input reads as it did. -/
def quorumAnswersSpec : ChangeSpec := { name := "quorumAnswers", fn := fun _ => fun
  | [d1, d2, d3, d4, d5, d6] => { results := [.lit (.bool true)], args := [d1, d2, d3, d4, d5, d6] }
  | _ => none }
def quorumAnswersRow : OpenClaim := { program := "ytjkfadlomchpjaa", sum := "1b8905e122bedd386dbd9b7b0e2b87d9edb98cd97bc1c132ba858ea3cef36b81", func := "workflow/workflowlaw53.QuorumAnswers", spec := "quorumAnswers", unfollowed := true, recurses := true, apart := false }
def QuorumAnswersSaid : Prop := quorumAnswersRow.holds Try.pinned (OpenSpec.ofChange quorumAnswersSpec)

/-- ITS FALSE NEIGHBOUR: 'it returns false'. Refute it at one input. -/
def quorumAnswersWrong : ChangeSpec := { name := "quorumAnswers", fn := fun _ => fun
  | [d1, d2, d3, d4, d5, d6] => { results := [.lit (.bool false)], args := [d1, d2, d3, d4, d5, d6] }
  | _ => none }
def QuorumAnswersWrongFalsely : Prop := quorumAnswersRow.holds Try.pinned (OpenSpec.ofChange quorumAnswersWrong)

/-- 'workflowlaw53.QuorumOverlap': WHATEVER THE INPUT: true; the input reads as it did. -/
def quorumOverlapSpec : ChangeSpec := { name := "quorumOverlap", fn := fun _ => fun
  | [d1, d2, d3] => { results := [.lit (.bool true)], args := [d1, d2, d3] }
  | _ => none }
def quorumOverlapRow : OpenClaim := { program := "ytjkfadlomchpjaa", sum := "1b8905e122bedd386dbd9b7b0e2b87d9edb98cd97bc1c132ba858ea3cef36b81", func := "workflow/workflowlaw53.QuorumOverlap", spec := "quorumOverlap", unfollowed := true, recurses := true, apart := false }
def QuorumOverlapSaid : Prop := quorumOverlapRow.holds Try.pinned (OpenSpec.ofChange quorumOverlapSpec)

/-- ITS FALSE NEIGHBOUR: 'it returns false'. Refute it at one input. -/
def quorumOverlapWrong : ChangeSpec := { name := "quorumOverlap", fn := fun _ => fun
  | [d1, d2, d3] => { results := [.lit (.bool false)], args := [d1, d2, d3] }
  | _ => none }
def QuorumOverlapWrongFalsely : Prop := quorumOverlapRow.holds Try.pinned (OpenSpec.ofChange quorumOverlapWrong)

/- THE SECOND FORM. 'bulk': how many values and letters a reading holds, each counted each time it is reached (what is shared counts as often as it is met; a slice's spare places count too). A statement '..UptoSaid' is the law's where the arguments, and the package variables that the reading takes, are together of bulk at most 1048576: NARROWER than '..Said'. Prove '..Said' where nothing that the law and all that it calls make is longer than what came in: it says more and counts as full. Else prove '..UptoSaid'. A law counts once. -/
mutual
def uptoBulk {H : Type} : DataW H → Nat
  | .lit (.string bytes) => bytes.length + 1
  | .lit _ => 1
  | .nil => 1
  | .ptr d => uptoBulk d + 1
  | .slice elems spare => uptoBulkAll elems + uptoBulkAll spare + 1
  | .agg parts => uptoBulkAll parts + 1
  | .iface _ d => uptoBulk d + 1
  | .map entries => uptoBulkEntries entries + 1
  | .held _ => 1
def uptoBulkAll {H : Type} : List (DataW H) → Nat
  | [] => 0
  | d :: r => uptoBulk d + uptoBulkAll r
def uptoBulkEntries {H : Type} : List (Lit × DataW H) → Nat
  | [] => 0
  | x :: r => uptoBulkEntry x + uptoBulkEntries r
def uptoBulkEntry {H : Type} : Lit × DataW H → Nat
  | (.string bytes, d) => bytes.length + uptoBulk d + 1
  | (_, d) => uptoBulk d + 1
 end
def uptoSmall : (H : Type) → List (DataW H) → Bool := fun _ ds => decide (uptoBulkAll ds ≤ 1048576)
def OpenSpec.upto (s : _root_.Go.ChangeSpec) : _root_.Go.OpenSpec := { _root_.Go.OpenSpec.ofChange s with cond := some uptoSmall }

/-- 'workflowlaw53.QuorumIndex', WHERE WHAT IT READS IS OF BULK AT MOST 1048576: true; the input reads as it did. -/
def quorumIndexUptoRow : OpenClaim := { program := "ytjkfadlomchpjaa", sum := "1b8905e122bedd386dbd9b7b0e2b87d9edb98cd97bc1c132ba858ea3cef36b81", func := "workflow/workflowlaw53.QuorumIndex", spec := "quorumIndex", unfollowed := true, recurses := true, apart := false, narrowed := true }
def QuorumIndexUptoSaid : Prop := quorumIndexUptoRow.holds Try.pinned (OpenSpec.upto quorumIndexSpec)

/-- 'workflowlaw53.QuorumCommits', WHERE WHAT IT READS IS OF BULK AT MOST 1048576: true; the input reads as it did. -/
def quorumCommitsUptoRow : OpenClaim := { program := "ytjkfadlomchpjaa", sum := "1b8905e122bedd386dbd9b7b0e2b87d9edb98cd97bc1c132ba858ea3cef36b81", func := "workflow/workflowlaw53.QuorumCommits", spec := "quorumCommits", unfollowed := true, recurses := true, apart := false, narrowed := true }
def QuorumCommitsUptoSaid : Prop := quorumCommitsUptoRow.holds Try.pinned (OpenSpec.upto quorumCommitsSpec)

/-- 'workflowlaw53.QuorumAnswers', WHERE WHAT IT READS IS OF BULK AT MOST 1048576: true; the input reads as it did. -/
def quorumAnswersUptoRow : OpenClaim := { program := "ytjkfadlomchpjaa", sum := "1b8905e122bedd386dbd9b7b0e2b87d9edb98cd97bc1c132ba858ea3cef36b81", func := "workflow/workflowlaw53.QuorumAnswers", spec := "quorumAnswers", unfollowed := true, recurses := true, apart := false, narrowed := true }
def QuorumAnswersUptoSaid : Prop := quorumAnswersUptoRow.holds Try.pinned (OpenSpec.upto quorumAnswersSpec)

/-- 'workflowlaw53.QuorumOverlap', WHERE WHAT IT READS IS OF BULK AT MOST 1048576: true; the input reads as it did. -/
def quorumOverlapUptoRow : OpenClaim := { program := "ytjkfadlomchpjaa", sum := "1b8905e122bedd386dbd9b7b0e2b87d9edb98cd97bc1c132ba858ea3cef36b81", func := "workflow/workflowlaw53.QuorumOverlap", spec := "quorumOverlap", unfollowed := true, recurses := true, apart := false, narrowed := true }
def QuorumOverlapUptoSaid : Prop := quorumOverlapUptoRow.holds Try.pinned (OpenSpec.upto quorumOverlapSpec)

end Rows
end Go.Proofs.Ytjkfadlomchpjaa
