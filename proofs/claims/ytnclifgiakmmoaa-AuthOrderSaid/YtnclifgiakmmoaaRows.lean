/-
  No cell of these rows narrows 'for every input' (looked for: loops, veiled, ifaces, maps, wideKeys, modest, calm, conditions, laid).
  DERIVED. THE GIVEN ROWS OF THIS SEAT. 2 by the template 'for every input the law returns true; each argument reads behind the call as it read before'; 0 by the template 'total and deterministic' (their statements: YtnclifgiakmmoaaTotals.lean).
  GIVEN WITH THE SEED: the statements are not yours to turn. If you find one false, say at which input.
  Laid BY PROGRAM, IN A SANDBOX (cutbox-rows.mjs): the forced cells as the released guide's own fill.sh prints them over the translation 404c18e6a0e18810… (all of the seat's roots in one cut). By AI agents, Wed Nov 11 2026. No macro, syntax, notation, axiom, sorry.
-/
import Derived.Test.YtnclifgiakmmoaaChecked
import GoSem.Claim
import GoSem.ClaimJoined
import GoSem.ClaimMapViews
import Derived.JoinedTies
import Derived.KernelRfl
namespace Go.Proofs.Ytnclifgiakmmoaa
/- THE CELL 'sum', in the pinned program and in every row, IS THE sha256 OF THE DUMP (.gsa) THAT YtnclifgiakmmoaaProg.lean LOADS. Nothing in Lean hashes anything: it is a label: what it is worth is what the hold of that sum in a sandbox is worth. -/
noncomputable def Try.pinned : Pinned := { name := "ytnclifgiakmmoaa", sum := "404c18e6a0e188107baf83bf1305da73c9c07b8d0661238e9ece3564606a35d6", checked := Try.checked }
namespace Rows
def none {H : Type} : Left H := { results := [], args := [] }

/-- 'gatepostlaw13.AuthMore': WHATEVER THE INPUT: true; the input reads as it did. -/
def authMoreSpec : ChangeSpec := { name := "authMore", fn := fun _ => fun
  | [d1, d2, d3, d4, d5, d6, d7] => { results := [.lit (.bool true)], args := [d1, d2, d3, d4, d5, d6, d7] }
  | _ => none }
def authMoreRow : OpenClaim := { program := "ytnclifgiakmmoaa", sum := "404c18e6a0e188107baf83bf1305da73c9c07b8d0661238e9ece3564606a35d6", func := "gatepost/gatepostlaw13.AuthMore", spec := "authMore", unfollowed := true, recurses := true, apart := false }
def AuthMoreSaid : Prop := authMoreRow.holds Try.pinned (OpenSpec.ofChange authMoreSpec)

/-- ITS FALSE NEIGHBOUR: 'it returns false'. Refute it at one input. -/
def authMoreWrong : ChangeSpec := { name := "authMore", fn := fun _ => fun
  | [d1, d2, d3, d4, d5, d6, d7] => { results := [.lit (.bool false)], args := [d1, d2, d3, d4, d5, d6, d7] }
  | _ => none }
def AuthMoreWrongFalsely : Prop := authMoreRow.holds Try.pinned (OpenSpec.ofChange authMoreWrong)

/-- 'gatepostlaw13.AuthOrder': WHATEVER THE INPUT: true; the input reads as it did. -/
def authOrderSpec : ChangeSpec := { name := "authOrder", fn := fun _ => fun
  | [d1, d2, d3, d4, d5] => { results := [.lit (.bool true)], args := [d1, d2, d3, d4, d5] }
  | _ => none }
def authOrderRow : OpenClaim := { program := "ytnclifgiakmmoaa", sum := "404c18e6a0e188107baf83bf1305da73c9c07b8d0661238e9ece3564606a35d6", func := "gatepost/gatepostlaw13.AuthOrder", spec := "authOrder", unfollowed := true, recurses := true, apart := false }
def AuthOrderSaid : Prop := authOrderRow.holds Try.pinned (OpenSpec.ofChange authOrderSpec)

/-- ITS FALSE NEIGHBOUR: 'it returns false'. Refute it at one input. -/
def authOrderWrong : ChangeSpec := { name := "authOrder", fn := fun _ => fun
  | [d1, d2, d3, d4, d5] => { results := [.lit (.bool false)], args := [d1, d2, d3, d4, d5] }
  | _ => none }
def AuthOrderWrongFalsely : Prop := authOrderRow.holds Try.pinned (OpenSpec.ofChange authOrderWrong)

/- THE SECOND FORM. 'bulk': how many values and letters a reading holds, each counted each time it is reached (what is shared counts as often as it is met; a slice's spare places count too). A statement '..UptoSaid' is the law's where the arguments, and the package variables that the reading takes, are together of bulk at most 1048576: NARROWER than '..Said'. Prove '..Said' where nothing that the law and all that it calls make is longer than what came in: it says more and counts as full. Else prove '..UptoSaid'. A law counts once. -/
mutual
def uptoBulk {H : Type} : DataW H → Nat
  | .lit (.string bytes) => bytes.length + 1
  | .lit _ => 1
  | .nil => 1
  | .ptr d => uptoBulk d + 1
  | .slice elems spare => uptoBulkAll elems + uptoBulkAll spare + 1
  | .agg parts => uptoBulkAll parts + 1
  | .iface _ d => uptoBulk d + 1
  | .map entries => uptoBulkEntries entries + 1
  | .held _ => 1
def uptoBulkAll {H : Type} : List (DataW H) → Nat
  | [] => 0
  | d :: r => uptoBulk d + uptoBulkAll r
def uptoBulkEntries {H : Type} : List (Lit × DataW H) → Nat
  | [] => 0
  | x :: r => uptoBulkEntry x + uptoBulkEntries r
def uptoBulkEntry {H : Type} : Lit × DataW H → Nat
  | (.string bytes, d) => bytes.length + uptoBulk d + 1
  | (_, d) => uptoBulk d + 1
 end
def uptoSmall : (H : Type) → List (DataW H) → Bool := fun _ ds => decide (uptoBulkAll ds ≤ 1048576)
def OpenSpec.upto (s : _root_.Go.ChangeSpec) : _root_.Go.OpenSpec := { _root_.Go.OpenSpec.ofChange s with cond := some uptoSmall }

/-- 'gatepostlaw13.AuthMore', WHERE WHAT IT READS IS OF BULK AT MOST 1048576: true; the input reads as it did. -/
def authMoreUptoRow : OpenClaim := { program := "ytnclifgiakmmoaa", sum := "404c18e6a0e188107baf83bf1305da73c9c07b8d0661238e9ece3564606a35d6", func := "gatepost/gatepostlaw13.AuthMore", spec := "authMore", unfollowed := true, recurses := true, apart := false, narrowed := true }
def AuthMoreUptoSaid : Prop := authMoreUptoRow.holds Try.pinned (OpenSpec.upto authMoreSpec)

/-- 'gatepostlaw13.AuthOrder', WHERE WHAT IT READS IS OF BULK AT MOST 1048576: true; the input reads as it did. -/
def authOrderUptoRow : OpenClaim := { program := "ytnclifgiakmmoaa", sum := "404c18e6a0e188107baf83bf1305da73c9c07b8d0661238e9ece3564606a35d6", func := "gatepost/gatepostlaw13.AuthOrder", spec := "authOrder", unfollowed := true, recurses := true, apart := false, narrowed := true }
def AuthOrderUptoSaid : Prop := authOrderUptoRow.holds Try.pinned (OpenSpec.upto authOrderSpec)

end Rows
end Go.Proofs.Ytnclifgiakmmoaa
