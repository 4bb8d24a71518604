/-
  No cell of these rows narrows 'for every input' (looked for: loops, veiled, ifaces, maps, wideKeys, modest, calm, conditions, laid).
  DERIVED. THE GIVEN ROWS OF THIS SEAT. 6 by the template 'for every input the law returns true; each argument reads behind the call as it read before'; 0 by the template 'total and deterministic' (their statements: YtgbcmjcaggnobaaTotals.lean).
  GIVEN WITH THE SEED: the statements are not yours to turn. If you find one false, say at which input.
  Laid BY PROGRAM, IN A SANDBOX (cutbox-rows.mjs): the forced cells as the released guide's own fill.sh prints them over the translation 479e45d358c8517a… (all of the seat's roots in one cut). By AI agents, Wed Nov 11 2026. No macro, syntax, notation, axiom, sorry.
-/
import Derived.Test.YtgbcmjcaggnobaaChecked
import GoSem.Claim
import GoSem.ClaimJoined
import GoSem.ClaimMapViews
import Derived.JoinedTies
import Derived.KernelRfl
namespace Go.Proofs.Ytgbcmjcaggnobaa
/- THE CELL 'sum', in the pinned program and in every row, IS THE sha256 OF THE DUMP (.gsa) THAT YtgbcmjcaggnobaaProg.lean LOADS. Nothing in Lean hashes anything: it is a label: what it is worth is what the hold of that sum in a sandbox is worth. -/
noncomputable def Try.pinned : Pinned := { name := "ytgbcmjcaggnobaa", sum := "479e45d358c8517a140d347a248524d05e3c5738107717922aaca1ae8b7c99d1", checked := Try.checked }
namespace Rows
def none {H : Type} : Left H := { results := [], args := [] }

/-- 'gatepostlaw23.NetKeeps': WHATEVER THE INPUT: true; the input reads as it did. -/
def netKeepsSpec : ChangeSpec := { name := "netKeeps", fn := fun _ => fun
  | [d1, d2] => { results := [.lit (.bool true)], args := [d1, d2] }
  | _ => none }
def netKeepsRow : OpenClaim := { program := "ytgbcmjcaggnobaa", sum := "479e45d358c8517a140d347a248524d05e3c5738107717922aaca1ae8b7c99d1", func := "gatepost/gatepostlaw23.NetKeeps", spec := "netKeeps", inPlace := ["slices.overlaps[[]byte]"], unfollowed := true, recurses := true, apart := false }
def NetKeepsSaid : Prop := netKeepsRow.holds Try.pinned (OpenSpec.ofChange netKeepsSpec)

/-- ITS FALSE NEIGHBOUR: 'it returns false'. Refute it at one input. -/
def netKeepsWrong : ChangeSpec := { name := "netKeeps", fn := fun _ => fun
  | [d1, d2] => { results := [.lit (.bool false)], args := [d1, d2] }
  | _ => none }
def NetKeepsWrongFalsely : Prop := netKeepsRow.holds Try.pinned (OpenSpec.ofChange netKeepsWrong)

/-- 'gatepostlaw23.NetApart': WHATEVER THE INPUT: true; the input reads as it did. -/
def netApartSpec : ChangeSpec := { name := "netApart", fn := fun _ => fun
  | [d1, d2, d3, d4] => { results := [.lit (.bool true)], args := [d1, d2, d3, d4] }
  | _ => none }
def netApartRow : OpenClaim := { program := "ytgbcmjcaggnobaa", sum := "479e45d358c8517a140d347a248524d05e3c5738107717922aaca1ae8b7c99d1", func := "gatepost/gatepostlaw23.NetApart", spec := "netApart", inPlace := ["slices.overlaps[[]byte]"], unfollowed := true, recurses := true, apart := false }
def NetApartSaid : Prop := netApartRow.holds Try.pinned (OpenSpec.ofChange netApartSpec)

/-- ITS FALSE NEIGHBOUR: 'it returns false'. Refute it at one input. -/
def netApartWrong : ChangeSpec := { name := "netApart", fn := fun _ => fun
  | [d1, d2, d3, d4] => { results := [.lit (.bool false)], args := [d1, d2, d3, d4] }
  | _ => none }
def NetApartWrongFalsely : Prop := netApartRow.holds Try.pinned (OpenSpec.ofChange netApartWrong)

/-- 'gatepostlaw23.NetDoes': WHATEVER THE INPUT: true; the input reads as it did. -/
def netDoesSpec : ChangeSpec := { name := "netDoes", fn := fun _ => fun
  | [d1, d2] => { results := [.lit (.bool true)], args := [d1, d2] }
  | _ => none }
def netDoesRow : OpenClaim := { program := "ytgbcmjcaggnobaa", sum := "479e45d358c8517a140d347a248524d05e3c5738107717922aaca1ae8b7c99d1", func := "gatepost/gatepostlaw23.NetDoes", spec := "netDoes", inPlace := ["slices.overlaps[[]byte]"], unfollowed := true, recurses := true, apart := false }
def NetDoesSaid : Prop := netDoesRow.holds Try.pinned (OpenSpec.ofChange netDoesSpec)

/-- ITS FALSE NEIGHBOUR: 'it returns false'. Refute it at one input. -/
def netDoesWrong : ChangeSpec := { name := "netDoes", fn := fun _ => fun
  | [d1, d2] => { results := [.lit (.bool false)], args := [d1, d2] }
  | _ => none }
def NetDoesWrongFalsely : Prop := netDoesRow.holds Try.pinned (OpenSpec.ofChange netDoesWrong)

/-- 'gatepostlaw23.NetNobody': WHATEVER THE INPUT: true; the input reads as it did. -/
def netNobodySpec : ChangeSpec := { name := "netNobody", fn := fun _ => fun
  | [d] => { results := [.lit (.bool true)], args := [d] }
  | _ => none }
def netNobodyRow : OpenClaim := { program := "ytgbcmjcaggnobaa", sum := "479e45d358c8517a140d347a248524d05e3c5738107717922aaca1ae8b7c99d1", func := "gatepost/gatepostlaw23.NetNobody", spec := "netNobody", inPlace := ["slices.overlaps[[]byte]"], unfollowed := true, recurses := true, apart := false }
def NetNobodySaid : Prop := netNobodyRow.holds Try.pinned (OpenSpec.ofChange netNobodySpec)

/-- ITS FALSE NEIGHBOUR: 'it returns false'. Refute it at one input. -/
def netNobodyWrong : ChangeSpec := { name := "netNobody", fn := fun _ => fun
  | [d] => { results := [.lit (.bool false)], args := [d] }
  | _ => none }
def NetNobodyWrongFalsely : Prop := netNobodyRow.holds Try.pinned (OpenSpec.ofChange netNobodyWrong)

/-- 'gatepostlaw23.NetOvertakes': WHATEVER THE INPUT: true; the input reads as it did. -/
def netOvertakesSpec : ChangeSpec := { name := "netOvertakes", fn := fun _ => fun
  | [d1, d2, d3, d4, d5] => { results := [.lit (.bool true)], args := [d1, d2, d3, d4, d5] }
  | _ => none }
def netOvertakesRow : OpenClaim := { program := "ytgbcmjcaggnobaa", sum := "479e45d358c8517a140d347a248524d05e3c5738107717922aaca1ae8b7c99d1", func := "gatepost/gatepostlaw23.NetOvertakes", spec := "netOvertakes", inPlace := ["slices.overlaps[[]byte]"], unfollowed := true, recurses := true, apart := false }
def NetOvertakesSaid : Prop := netOvertakesRow.holds Try.pinned (OpenSpec.ofChange netOvertakesSpec)

/-- ITS FALSE NEIGHBOUR: 'it returns false'. Refute it at one input. -/
def netOvertakesWrong : ChangeSpec := { name := "netOvertakes", fn := fun _ => fun
  | [d1, d2, d3, d4, d5] => { results := [.lit (.bool false)], args := [d1, d2, d3, d4, d5] }
  | _ => none }
def NetOvertakesWrongFalsely : Prop := netOvertakesRow.holds Try.pinned (OpenSpec.ofChange netOvertakesWrong)

/-- 'gatepostlaw23.NetEither': WHATEVER THE INPUT: true; the input reads as it did. -/
def netEitherSpec : ChangeSpec := { name := "netEither", fn := fun _ => fun
  | [d1, d2, d3, d4] => { results := [.lit (.bool true)], args := [d1, d2, d3, d4] }
  | _ => none }
def netEitherRow : OpenClaim := { program := "ytgbcmjcaggnobaa", sum := "479e45d358c8517a140d347a248524d05e3c5738107717922aaca1ae8b7c99d1", func := "gatepost/gatepostlaw23.NetEither", spec := "netEither", inPlace := ["slices.overlaps[[]byte]"], unfollowed := true, recurses := true, apart := false }
def NetEitherSaid : Prop := netEitherRow.holds Try.pinned (OpenSpec.ofChange netEitherSpec)

/-- ITS FALSE NEIGHBOUR: 'it returns false'. Refute it at one input. -/
def netEitherWrong : ChangeSpec := { name := "netEither", fn := fun _ => fun
  | [d1, d2, d3, d4] => { results := [.lit (.bool false)], args := [d1, d2, d3, d4] }
  | _ => none }
def NetEitherWrongFalsely : Prop := netEitherRow.holds Try.pinned (OpenSpec.ofChange netEitherWrong)

/- THE SECOND FORM. 'bulk': how many values and letters a reading holds, each counted each time it is reached (what is shared counts as often as it is met; a slice's spare places count too). A statement '..UptoSaid' is the law's where the arguments, and the package variables that the reading takes, are together of bulk at most 1048576: NARROWER than '..Said'. Prove '..Said' where nothing that the law and all that it calls make is longer than what came in: it says more and counts as full. Else prove '..UptoSaid'. A law counts once. -/
mutual
def uptoBulk {H : Type} : DataW H → Nat
  | .lit (.string bytes) => bytes.length + 1
  | .lit _ => 1
  | .nil => 1
  | .ptr d => uptoBulk d + 1
  | .slice elems spare => uptoBulkAll elems + uptoBulkAll spare + 1
  | .agg parts => uptoBulkAll parts + 1
  | .iface _ d => uptoBulk d + 1
  | .map entries => uptoBulkEntries entries + 1
  | .held _ => 1
def uptoBulkAll {H : Type} : List (DataW H) → Nat
  | [] => 0
  | d :: r => uptoBulk d + uptoBulkAll r
def uptoBulkEntries {H : Type} : List (Lit × DataW H) → Nat
  | [] => 0
  | x :: r => uptoBulkEntry x + uptoBulkEntries r
def uptoBulkEntry {H : Type} : Lit × DataW H → Nat
  | (.string bytes, d) => bytes.length + uptoBulk d + 1
  | (_, d) => uptoBulk d + 1
 end
def uptoSmall : (H : Type) → List (DataW H) → Bool := fun _ ds => decide (uptoBulkAll ds ≤ 1048576)
def OpenSpec.upto (s : _root_.Go.ChangeSpec) : _root_.Go.OpenSpec := { _root_.Go.OpenSpec.ofChange s with cond := some uptoSmall }

/-- 'gatepostlaw23.NetKeeps', WHERE WHAT IT READS IS OF BULK AT MOST 1048576: true; the input reads as it did. -/
def netKeepsUptoRow : OpenClaim := { program := "ytgbcmjcaggnobaa", sum := "479e45d358c8517a140d347a248524d05e3c5738107717922aaca1ae8b7c99d1", func := "gatepost/gatepostlaw23.NetKeeps", spec := "netKeeps", inPlace := ["slices.overlaps[[]byte]"], unfollowed := true, recurses := true, apart := false, narrowed := true }
def NetKeepsUptoSaid : Prop := netKeepsUptoRow.holds Try.pinned (OpenSpec.upto netKeepsSpec)

/-- 'gatepostlaw23.NetApart', WHERE WHAT IT READS IS OF BULK AT MOST 1048576: true; the input reads as it did. -/
def netApartUptoRow : OpenClaim := { program := "ytgbcmjcaggnobaa", sum := "479e45d358c8517a140d347a248524d05e3c5738107717922aaca1ae8b7c99d1", func := "gatepost/gatepostlaw23.NetApart", spec := "netApart", inPlace := ["slices.overlaps[[]byte]"], unfollowed := true, recurses := true, apart := false, narrowed := true }
def NetApartUptoSaid : Prop := netApartUptoRow.holds Try.pinned (OpenSpec.upto netApartSpec)

/-- 'gatepostlaw23.NetDoes', WHERE WHAT IT READS IS OF BULK AT MOST 1048576: true; the input reads as it did. -/
def netDoesUptoRow : OpenClaim := { program := "ytgbcmjcaggnobaa", sum := "479e45d358c8517a140d347a248524d05e3c5738107717922aaca1ae8b7c99d1", func := "gatepost/gatepostlaw23.NetDoes", spec := "netDoes", inPlace := ["slices.overlaps[[]byte]"], unfollowed := true, recurses := true, apart := false, narrowed := true }
def NetDoesUptoSaid : Prop := netDoesUptoRow.holds Try.pinned (OpenSpec.upto netDoesSpec)

/-- 'gatepostlaw23.NetNobody', WHERE WHAT IT READS IS OF BULK AT MOST 1048576: true; the input reads as it did. -/
def netNobodyUptoRow : OpenClaim := { program := "ytgbcmjcaggnobaa", sum := "479e45d358c8517a140d347a248524d05e3c5738107717922aaca1ae8b7c99d1", func := "gatepost/gatepostlaw23.NetNobody", spec := "netNobody", inPlace := ["slices.overlaps[[]byte]"], unfollowed := true, recurses := true, apart := false, narrowed := true }
def NetNobodyUptoSaid : Prop := netNobodyUptoRow.holds Try.pinned (OpenSpec.upto netNobodySpec)

/-- 'gatepostlaw23.NetOvertakes', WHERE WHAT IT READS IS OF BULK AT MOST 1048576: true; the input reads as it did. -/
def netOvertakesUptoRow : OpenClaim := { program := "ytgbcmjcaggnobaa", sum := "479e45d358c8517a140d347a248524d05e3c5738107717922aaca1ae8b7c99d1", func := "gatepost/gatepostlaw23.NetOvertakes", spec := "netOvertakes", inPlace := ["slices.overlaps[[]byte]"], unfollowed := true, recurses := true, apart := false, narrowed := true }
def NetOvertakesUptoSaid : Prop := netOvertakesUptoRow.holds Try.pinned (OpenSpec.upto netOvertakesSpec)

/-- 'gatepostlaw23.NetEither', WHERE WHAT IT READS IS OF BULK AT MOST 1048576: true; the input reads as it did. -/
def netEitherUptoRow : OpenClaim := { program := "ytgbcmjcaggnobaa", sum := "479e45d358c8517a140d347a248524d05e3c5738107717922aaca1ae8b7c99d1", func := "gatepost/gatepostlaw23.NetEither", spec := "netEither", inPlace := ["slices.overlaps[[]byte]"], unfollowed := true, recurses := true, apart := false, narrowed := true }
def NetEitherUptoSaid : Prop := netEitherUptoRow.holds Try.pinned (OpenSpec.upto netEitherSpec)

end Rows
end Go.Proofs.Ytgbcmjcaggnobaa
