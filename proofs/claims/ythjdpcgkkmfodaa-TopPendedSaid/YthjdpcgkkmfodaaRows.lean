/-
  No cell of these rows narrows 'for every input' (looked for: loops, veiled, ifaces, maps, wideKeys, modest, calm, conditions, laid).
  DERIVED. THE GIVEN ROWS OF THIS SEAT. 5 by the template 'for every input the law returns true; each argument reads behind the call as it read before'; 0 by the template 'total and deterministic' (their statements: YthjdpcgkkmfodaaTotals.lean).
  GIVEN WITH THE SEED: the statements are not yours to turn. If you find one false, say at which input.
  Laid BY PROGRAM, IN A SANDBOX (cutbox-rows.mjs): the forced cells as the released guide's own fill.sh prints them over the translation 323c5a1f665856c6… (all of the seat's roots in one cut). By AI agents, Wed Nov 11 2026. No macro, syntax, notation, axiom, sorry.
-/
import Derived.Test.YthjdpcgkkmfodaaChecked
import GoSem.Claim
import GoSem.ClaimJoined
import GoSem.ClaimMapViews
import Derived.JoinedTies
import Derived.KernelRfl
namespace Go.Proofs.Ythjdpcgkkmfodaa
/- THE CELL 'sum', in the pinned program and in every row, IS THE sha256 OF THE DUMP (.gsa) THAT YthjdpcgkkmfodaaProg.lean LOADS. Nothing in Lean hashes anything: it is a label: what it is worth is what the hold of that sum in a sandbox is worth. -/
noncomputable def Try.pinned : Pinned := { name := "ythjdpcgkkmfodaa", sum := "323c5a1f665856c6e7495b7803fb7dea1ac9ee2dc98a6d5cb6e3f409ee555bb0", checked := Try.checked }
namespace Rows
def none {H : Type} : Left H := { results := [], args := [] }

/-- 'parclosetop.TopLaid': WHATEVER THE INPUT: true; the input reads as it did. -/
def topLaidSpec : ChangeSpec := { name := "topLaid", fn := fun _ => fun
  | [d1, d2, d3] => { results := [.lit (.bool true)], args := [d1, d2, d3] }
  | _ => none }
def topLaidRow : OpenClaim := { program := "ythjdpcgkkmfodaa", sum := "323c5a1f665856c6e7495b7803fb7dea1ac9ee2dc98a6d5cb6e3f409ee555bb0", func := "parclose/parclosetop.TopLaid", spec := "topLaid", unfollowed := true, recurses := true, apart := false }
def TopLaidSaid : Prop := topLaidRow.holds Try.pinned (OpenSpec.ofChange topLaidSpec)

/-- ITS FALSE NEIGHBOUR: 'it returns false'. Refute it at one input. -/
def topLaidWrong : ChangeSpec := { name := "topLaid", fn := fun _ => fun
  | [d1, d2, d3] => { results := [.lit (.bool false)], args := [d1, d2, d3] }
  | _ => none }
def TopLaidWrongFalsely : Prop := topLaidRow.holds Try.pinned (OpenSpec.ofChange topLaidWrong)

/-- 'parclosetop.TopDescribed': WHATEVER THE INPUT: true; the input reads as it did. -/
def topDescribedSpec : ChangeSpec := { name := "topDescribed", fn := fun _ => fun
  | [d] => { results := [.lit (.bool true)], args := [d] }
  | _ => none }
def topDescribedRow : OpenClaim := { program := "ythjdpcgkkmfodaa", sum := "323c5a1f665856c6e7495b7803fb7dea1ac9ee2dc98a6d5cb6e3f409ee555bb0", func := "parclose/parclosetop.TopDescribed", spec := "topDescribed", apart := false }
def TopDescribedSaid : Prop := topDescribedRow.holds Try.pinned (OpenSpec.ofChange topDescribedSpec)

/-- ITS FALSE NEIGHBOUR: 'it returns false'. Refute it at one input. -/
def topDescribedWrong : ChangeSpec := { name := "topDescribed", fn := fun _ => fun
  | [d] => { results := [.lit (.bool false)], args := [d] }
  | _ => none }
def TopDescribedWrongFalsely : Prop := topDescribedRow.holds Try.pinned (OpenSpec.ofChange topDescribedWrong)

/-- 'parclosetop.TopPended': WHATEVER THE INPUT: true; the input reads as it did. -/
def topPendedSpec : ChangeSpec := { name := "topPended", fn := fun _ => fun
  | [d1, d2, d3] => { results := [.lit (.bool true)], args := [d1, d2, d3] }
  | _ => none }
def topPendedRow : OpenClaim := { program := "ythjdpcgkkmfodaa", sum := "323c5a1f665856c6e7495b7803fb7dea1ac9ee2dc98a6d5cb6e3f409ee555bb0", func := "parclose/parclosetop.TopPended", spec := "topPended", unfollowed := true, recurses := true, apart := false }
def TopPendedSaid : Prop := topPendedRow.holds Try.pinned (OpenSpec.ofChange topPendedSpec)

/-- ITS FALSE NEIGHBOUR: 'it returns false'. Refute it at one input. -/
def topPendedWrong : ChangeSpec := { name := "topPended", fn := fun _ => fun
  | [d1, d2, d3] => { results := [.lit (.bool false)], args := [d1, d2, d3] }
  | _ => none }
def TopPendedWrongFalsely : Prop := topPendedRow.holds Try.pinned (OpenSpec.ofChange topPendedWrong)

/-- 'parclosetop.TopPooled': WHATEVER THE INPUT: true; the input reads as it did. -/
def topPooledSpec : ChangeSpec := { name := "topPooled", fn := fun _ => fun
  | [d1, d2] => { results := [.lit (.bool true)], args := [d1, d2] }
  | _ => none }
def topPooledRow : OpenClaim := { program := "ythjdpcgkkmfodaa", sum := "323c5a1f665856c6e7495b7803fb7dea1ac9ee2dc98a6d5cb6e3f409ee555bb0", func := "parclose/parclosetop.TopPooled", spec := "topPooled", unfollowed := true, recurses := true, apart := false }
def TopPooledSaid : Prop := topPooledRow.holds Try.pinned (OpenSpec.ofChange topPooledSpec)

/-- ITS FALSE NEIGHBOUR: 'it returns false'. Refute it at one input. -/
def topPooledWrong : ChangeSpec := { name := "topPooled", fn := fun _ => fun
  | [d1, d2] => { results := [.lit (.bool false)], args := [d1, d2] }
  | _ => none }
def TopPooledWrongFalsely : Prop := topPooledRow.holds Try.pinned (OpenSpec.ofChange topPooledWrong)

/-- 'parclosetop.TopQueued': WHATEVER THE INPUT: true; the input reads as it did. -/
def topQueuedSpec : ChangeSpec := { name := "topQueued", fn := fun _ => fun
  | [d] => { results := [.lit (.bool true)], args := [d] }
  | _ => none }
def topQueuedRow : OpenClaim := { program := "ythjdpcgkkmfodaa", sum := "323c5a1f665856c6e7495b7803fb7dea1ac9ee2dc98a6d5cb6e3f409ee555bb0", func := "parclose/parclosetop.TopQueued", spec := "topQueued", unfollowed := true, recurses := true, apart := false }
def TopQueuedSaid : Prop := topQueuedRow.holds Try.pinned (OpenSpec.ofChange topQueuedSpec)

/-- ITS FALSE NEIGHBOUR: 'it returns false'. Refute it at one input. -/
def topQueuedWrong : ChangeSpec := { name := "topQueued", fn := fun _ => fun
  | [d] => { results := [.lit (.bool false)], args := [d] }
  | _ => none }
def TopQueuedWrongFalsely : Prop := topQueuedRow.holds Try.pinned (OpenSpec.ofChange topQueuedWrong)

/- THE SECOND FORM. 'bulk': how many values and letters a reading holds, each counted each time it is reached (what is shared counts as often as it is met; a slice's spare places count too). A statement '..UptoSaid' is the law's where the arguments, and the package variables that the reading takes, are together of bulk at most 1048576: NARROWER than '..Said'. Prove '..Said' where nothing that the law and all that it calls make is longer than what came in: it says more and counts as full. Else prove '..UptoSaid'. A law counts once. -/
mutual
def uptoBulk {H : Type} : DataW H → Nat
  | .lit (.string bytes) => bytes.length + 1
  | .lit _ => 1
  | .nil => 1
  | .ptr d => uptoBulk d + 1
  | .slice elems spare => uptoBulkAll elems + uptoBulkAll spare + 1
  | .agg parts => uptoBulkAll parts + 1
  | .iface _ d => uptoBulk d + 1
  | .map entries => uptoBulkEntries entries + 1
  | .held _ => 1
def uptoBulkAll {H : Type} : List (DataW H) → Nat
  | [] => 0
  | d :: r => uptoBulk d + uptoBulkAll r
def uptoBulkEntries {H : Type} : List (Lit × DataW H) → Nat
  | [] => 0
  | x :: r => uptoBulkEntry x + uptoBulkEntries r
def uptoBulkEntry {H : Type} : Lit × DataW H → Nat
  | (.string bytes, d) => bytes.length + uptoBulk d + 1
  | (_, d) => uptoBulk d + 1
 end
def uptoSmall : (H : Type) → List (DataW H) → Bool := fun _ ds => decide (uptoBulkAll ds ≤ 1048576)
def OpenSpec.upto (s : _root_.Go.ChangeSpec) : _root_.Go.OpenSpec := { _root_.Go.OpenSpec.ofChange s with cond := some uptoSmall }

/-- 'parclosetop.TopLaid', WHERE WHAT IT READS IS OF BULK AT MOST 1048576: true; the input reads as it did. -/
def topLaidUptoRow : OpenClaim := { program := "ythjdpcgkkmfodaa", sum := "323c5a1f665856c6e7495b7803fb7dea1ac9ee2dc98a6d5cb6e3f409ee555bb0", func := "parclose/parclosetop.TopLaid", spec := "topLaid", unfollowed := true, recurses := true, apart := false, narrowed := true }
def TopLaidUptoSaid : Prop := topLaidUptoRow.holds Try.pinned (OpenSpec.upto topLaidSpec)

/-- 'parclosetop.TopDescribed', WHERE WHAT IT READS IS OF BULK AT MOST 1048576: true; the input reads as it did. -/
def topDescribedUptoRow : OpenClaim := { program := "ythjdpcgkkmfodaa", sum := "323c5a1f665856c6e7495b7803fb7dea1ac9ee2dc98a6d5cb6e3f409ee555bb0", func := "parclose/parclosetop.TopDescribed", spec := "topDescribed", apart := false, narrowed := true }
def TopDescribedUptoSaid : Prop := topDescribedUptoRow.holds Try.pinned (OpenSpec.upto topDescribedSpec)

/-- 'parclosetop.TopPended', WHERE WHAT IT READS IS OF BULK AT MOST 1048576: true; the input reads as it did. -/
def topPendedUptoRow : OpenClaim := { program := "ythjdpcgkkmfodaa", sum := "323c5a1f665856c6e7495b7803fb7dea1ac9ee2dc98a6d5cb6e3f409ee555bb0", func := "parclose/parclosetop.TopPended", spec := "topPended", unfollowed := true, recurses := true, apart := false, narrowed := true }
def TopPendedUptoSaid : Prop := topPendedUptoRow.holds Try.pinned (OpenSpec.upto topPendedSpec)

/-- 'parclosetop.TopPooled', WHERE WHAT IT READS IS OF BULK AT MOST 1048576: true; the input reads as it did. -/
def topPooledUptoRow : OpenClaim := { program := "ythjdpcgkkmfodaa", sum := "323c5a1f665856c6e7495b7803fb7dea1ac9ee2dc98a6d5cb6e3f409ee555bb0", func := "parclose/parclosetop.TopPooled", spec := "topPooled", unfollowed := true, recurses := true, apart := false, narrowed := true }
def TopPooledUptoSaid : Prop := topPooledUptoRow.holds Try.pinned (OpenSpec.upto topPooledSpec)

/-- 'parclosetop.TopQueued', WHERE WHAT IT READS IS OF BULK AT MOST 1048576: true; the input reads as it did. -/
def topQueuedUptoRow : OpenClaim := { program := "ythjdpcgkkmfodaa", sum := "323c5a1f665856c6e7495b7803fb7dea1ac9ee2dc98a6d5cb6e3f409ee555bb0", func := "parclose/parclosetop.TopQueued", spec := "topQueued", unfollowed := true, recurses := true, apart := false, narrowed := true }
def TopQueuedUptoSaid : Prop := topQueuedUptoRow.holds Try.pinned (OpenSpec.upto topQueuedSpec)

end Rows
end Go.Proofs.Ythjdpcgkkmfodaa
