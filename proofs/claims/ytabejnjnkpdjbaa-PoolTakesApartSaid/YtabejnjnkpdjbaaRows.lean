/-
  No cell of these rows narrows 'for every input' (looked for: loops, veiled, ifaces, maps, wideKeys, modest, calm, conditions, laid).
  DERIVED. THE GIVEN ROWS OF THIS SEAT. 6 by the template 'for every input the law returns true; each argument reads behind the call as it read before'; 0 by the template 'total and deterministic' (their statements: YtabejnjnkpdjbaaTotals.lean).
  GIVEN WITH THE SEED: the statements are not yours to turn. If you find one false, say at which input.
  Laid BY PROGRAM, IN A SANDBOX (cutbox-rows.mjs): the forced cells as the released guide's own fill.sh prints them over the translation bd00cad2f60a9eda… (all of the seat's roots in one cut). By AI agents, Wed Nov 11 2026. No macro, syntax, notation, axiom, sorry.
-/
import Derived.Test.YtabejnjnkpdjbaaChecked
import GoSem.Claim
import GoSem.ClaimJoined
import GoSem.ClaimMapViews
import Derived.JoinedTies
import Derived.KernelRfl
namespace Go.Proofs.Ytabejnjnkpdjbaa
/- THE CELL 'sum', in the pinned program and in every row, IS THE sha256 OF THE DUMP (.gsa) THAT YtabejnjnkpdjbaaProg.lean LOADS. Nothing in Lean hashes anything: it is a label: what it is worth is what the hold of that sum in a sandbox is worth. -/
noncomputable def Try.pinned : Pinned := { name := "ytabejnjnkpdjbaa", sum := "bd00cad2f60a9eda14779cb790f9b885aece61a0aebd49c74d96d5815ce31547", checked := Try.checked }
namespace Rows
def none {H : Type} : Left H := { results := [], args := [] }

/-- 'gatepostlaw21.PoolTakesOnce': WHATEVER THE INPUT: true; the input reads as it did. -/
def poolTakesOnceSpec : ChangeSpec := { name := "poolTakesOnce", fn := fun _ => fun
  | [d1, d2] => { results := [.lit (.bool true)], args := [d1, d2] }
  | _ => none }
def poolTakesOnceRow : OpenClaim := { program := "ytabejnjnkpdjbaa", sum := "bd00cad2f60a9eda14779cb790f9b885aece61a0aebd49c74d96d5815ce31547", func := "gatepost/gatepostlaw21.PoolTakesOnce", spec := "poolTakesOnce", unfollowed := true, recurses := true, apart := false }
def PoolTakesOnceSaid : Prop := poolTakesOnceRow.holds Try.pinned (OpenSpec.ofChange poolTakesOnceSpec)

/-- ITS FALSE NEIGHBOUR: 'it returns false'. Refute it at one input. -/
def poolTakesOnceWrong : ChangeSpec := { name := "poolTakesOnce", fn := fun _ => fun
  | [d1, d2] => { results := [.lit (.bool false)], args := [d1, d2] }
  | _ => none }
def PoolTakesOnceWrongFalsely : Prop := poolTakesOnceRow.holds Try.pinned (OpenSpec.ofChange poolTakesOnceWrong)

/-- 'gatepostlaw21.PoolTakesApart': WHATEVER THE INPUT: true; the input reads as it did. -/
def poolTakesApartSpec : ChangeSpec := { name := "poolTakesApart", fn := fun _ => fun
  | [d1, d2, d3, d4, d5] => { results := [.lit (.bool true)], args := [d1, d2, d3, d4, d5] }
  | _ => none }
def poolTakesApartRow : OpenClaim := { program := "ytabejnjnkpdjbaa", sum := "bd00cad2f60a9eda14779cb790f9b885aece61a0aebd49c74d96d5815ce31547", func := "gatepost/gatepostlaw21.PoolTakesApart", spec := "poolTakesApart", unfollowed := true, recurses := true, apart := false }
def PoolTakesApartSaid : Prop := poolTakesApartRow.holds Try.pinned (OpenSpec.ofChange poolTakesApartSpec)

/-- ITS FALSE NEIGHBOUR: 'it returns false'. Refute it at one input. -/
def poolTakesApartWrong : ChangeSpec := { name := "poolTakesApart", fn := fun _ => fun
  | [d1, d2, d3, d4, d5] => { results := [.lit (.bool false)], args := [d1, d2, d3, d4, d5] }
  | _ => none }
def PoolTakesApartWrongFalsely : Prop := poolTakesApartRow.holds Try.pinned (OpenSpec.ofChange poolTakesApartWrong)

/-- 'gatepostlaw21.PoolOnce': WHATEVER THE INPUT: true; the input reads as it did. -/
def poolOnceSpec : ChangeSpec := { name := "poolOnce", fn := fun _ => fun
  | [d1, d2] => { results := [.lit (.bool true)], args := [d1, d2] }
  | _ => none }
def poolOnceRow : OpenClaim := { program := "ytabejnjnkpdjbaa", sum := "bd00cad2f60a9eda14779cb790f9b885aece61a0aebd49c74d96d5815ce31547", func := "gatepost/gatepostlaw21.PoolOnce", spec := "poolOnce", unfollowed := true, recurses := true, apart := false }
def PoolOnceSaid : Prop := poolOnceRow.holds Try.pinned (OpenSpec.ofChange poolOnceSpec)

/-- ITS FALSE NEIGHBOUR: 'it returns false'. Refute it at one input. -/
def poolOnceWrong : ChangeSpec := { name := "poolOnce", fn := fun _ => fun
  | [d1, d2] => { results := [.lit (.bool false)], args := [d1, d2] }
  | _ => none }
def PoolOnceWrongFalsely : Prop := poolOnceRow.holds Try.pinned (OpenSpec.ofChange poolOnceWrong)

/-- 'gatepostlaw21.PoolRests': WHATEVER THE INPUT: true; the input reads as it did. -/
def poolRestsSpec : ChangeSpec := { name := "poolRests", fn := fun _ => fun
  | [d1, d2] => { results := [.lit (.bool true)], args := [d1, d2] }
  | _ => none }
def poolRestsRow : OpenClaim := { program := "ytabejnjnkpdjbaa", sum := "bd00cad2f60a9eda14779cb790f9b885aece61a0aebd49c74d96d5815ce31547", func := "gatepost/gatepostlaw21.PoolRests", spec := "poolRests", unfollowed := true, recurses := true, apart := false }
def PoolRestsSaid : Prop := poolRestsRow.holds Try.pinned (OpenSpec.ofChange poolRestsSpec)

/-- ITS FALSE NEIGHBOUR: 'it returns false'. Refute it at one input. -/
def poolRestsWrong : ChangeSpec := { name := "poolRests", fn := fun _ => fun
  | [d1, d2] => { results := [.lit (.bool false)], args := [d1, d2] }
  | _ => none }
def PoolRestsWrongFalsely : Prop := poolRestsRow.holds Try.pinned (OpenSpec.ofChange poolRestsWrong)

/-- 'gatepostlaw21.PoolDoes': WHATEVER THE INPUT: true; the input reads as it did. -/
def poolDoesSpec : ChangeSpec := { name := "poolDoes", fn := fun _ => fun
  | [d1, d2, d3, d4, d5] => { results := [.lit (.bool true)], args := [d1, d2, d3, d4, d5] }
  | _ => none }
def poolDoesRow : OpenClaim := { program := "ytabejnjnkpdjbaa", sum := "bd00cad2f60a9eda14779cb790f9b885aece61a0aebd49c74d96d5815ce31547", func := "gatepost/gatepostlaw21.PoolDoes", spec := "poolDoes", unfollowed := true, recurses := true, apart := false }
def PoolDoesSaid : Prop := poolDoesRow.holds Try.pinned (OpenSpec.ofChange poolDoesSpec)

/-- ITS FALSE NEIGHBOUR: 'it returns false'. Refute it at one input. -/
def poolDoesWrong : ChangeSpec := { name := "poolDoes", fn := fun _ => fun
  | [d1, d2, d3, d4, d5] => { results := [.lit (.bool false)], args := [d1, d2, d3, d4, d5] }
  | _ => none }
def PoolDoesWrongFalsely : Prop := poolDoesRow.holds Try.pinned (OpenSpec.ofChange poolDoesWrong)

/-- 'gatepostlaw21.PoolTakesIn': WHATEVER THE INPUT: true; the input reads as it did. -/
def poolTakesInSpec : ChangeSpec := { name := "poolTakesIn", fn := fun _ => fun
  | [d1, d2, d3, d4, d5, d6, d7, d8] => { results := [.lit (.bool true)], args := [d1, d2, d3, d4, d5, d6, d7, d8] }
  | _ => none }
def poolTakesInRow : OpenClaim := { program := "ytabejnjnkpdjbaa", sum := "bd00cad2f60a9eda14779cb790f9b885aece61a0aebd49c74d96d5815ce31547", func := "gatepost/gatepostlaw21.PoolTakesIn", spec := "poolTakesIn", unfollowed := true, recurses := true, apart := false }
def PoolTakesInSaid : Prop := poolTakesInRow.holds Try.pinned (OpenSpec.ofChange poolTakesInSpec)

/-- ITS FALSE NEIGHBOUR: 'it returns false'. Refute it at one input. -/
def poolTakesInWrong : ChangeSpec := { name := "poolTakesIn", fn := fun _ => fun
  | [d1, d2, d3, d4, d5, d6, d7, d8] => { results := [.lit (.bool false)], args := [d1, d2, d3, d4, d5, d6, d7, d8] }
  | _ => none }
def PoolTakesInWrongFalsely : Prop := poolTakesInRow.holds Try.pinned (OpenSpec.ofChange poolTakesInWrong)

/- THE SECOND FORM. 'bulk': how many values and letters a reading holds, each counted each time it is reached (what is shared counts as often as it is met; a slice's spare places count too). A statement '..UptoSaid' is the law's where the arguments, and the package variables that the reading takes, are together of bulk at most 1048576: NARROWER than '..Said'. Prove '..Said' where nothing that the law and all that it calls make is longer than what came in: it says more and counts as full. Else prove '..UptoSaid'. A law counts once. -/
mutual
def uptoBulk {H : Type} : DataW H → Nat
  | .lit (.string bytes) => bytes.length + 1
  | .lit _ => 1
  | .nil => 1
  | .ptr d => uptoBulk d + 1
  | .slice elems spare => uptoBulkAll elems + uptoBulkAll spare + 1
  | .agg parts => uptoBulkAll parts + 1
  | .iface _ d => uptoBulk d + 1
  | .map entries => uptoBulkEntries entries + 1
  | .held _ => 1
def uptoBulkAll {H : Type} : List (DataW H) → Nat
  | [] => 0
  | d :: r => uptoBulk d + uptoBulkAll r
def uptoBulkEntries {H : Type} : List (Lit × DataW H) → Nat
  | [] => 0
  | x :: r => uptoBulkEntry x + uptoBulkEntries r
def uptoBulkEntry {H : Type} : Lit × DataW H → Nat
  | (.string bytes, d) => bytes.length + uptoBulk d + 1
  | (_, d) => uptoBulk d + 1
 end
def uptoSmall : (H : Type) → List (DataW H) → Bool := fun _ ds => decide (uptoBulkAll ds ≤ 1048576)
def OpenSpec.upto (s : _root_.Go.ChangeSpec) : _root_.Go.OpenSpec := { _root_.Go.OpenSpec.ofChange s with cond := some uptoSmall }

/-- 'gatepostlaw21.PoolTakesOnce', WHERE WHAT IT READS IS OF BULK AT MOST 1048576: true; the input reads as it did. -/
def poolTakesOnceUptoRow : OpenClaim := { program := "ytabejnjnkpdjbaa", sum := "bd00cad2f60a9eda14779cb790f9b885aece61a0aebd49c74d96d5815ce31547", func := "gatepost/gatepostlaw21.PoolTakesOnce", spec := "poolTakesOnce", unfollowed := true, recurses := true, apart := false, narrowed := true }
def PoolTakesOnceUptoSaid : Prop := poolTakesOnceUptoRow.holds Try.pinned (OpenSpec.upto poolTakesOnceSpec)

/-- 'gatepostlaw21.PoolTakesApart', WHERE WHAT IT READS IS OF BULK AT MOST 1048576: true; the input reads as it did. -/
def poolTakesApartUptoRow : OpenClaim := { program := "ytabejnjnkpdjbaa", sum := "bd00cad2f60a9eda14779cb790f9b885aece61a0aebd49c74d96d5815ce31547", func := "gatepost/gatepostlaw21.PoolTakesApart", spec := "poolTakesApart", unfollowed := true, recurses := true, apart := false, narrowed := true }
def PoolTakesApartUptoSaid : Prop := poolTakesApartUptoRow.holds Try.pinned (OpenSpec.upto poolTakesApartSpec)

/-- 'gatepostlaw21.PoolOnce', WHERE WHAT IT READS IS OF BULK AT MOST 1048576: true; the input reads as it did. -/
def poolOnceUptoRow : OpenClaim := { program := "ytabejnjnkpdjbaa", sum := "bd00cad2f60a9eda14779cb790f9b885aece61a0aebd49c74d96d5815ce31547", func := "gatepost/gatepostlaw21.PoolOnce", spec := "poolOnce", unfollowed := true, recurses := true, apart := false, narrowed := true }
def PoolOnceUptoSaid : Prop := poolOnceUptoRow.holds Try.pinned (OpenSpec.upto poolOnceSpec)

/-- 'gatepostlaw21.PoolRests', WHERE WHAT IT READS IS OF BULK AT MOST 1048576: true; the input reads as it did. -/
def poolRestsUptoRow : OpenClaim := { program := "ytabejnjnkpdjbaa", sum := "bd00cad2f60a9eda14779cb790f9b885aece61a0aebd49c74d96d5815ce31547", func := "gatepost/gatepostlaw21.PoolRests", spec := "poolRests", unfollowed := true, recurses := true, apart := false, narrowed := true }
def PoolRestsUptoSaid : Prop := poolRestsUptoRow.holds Try.pinned (OpenSpec.upto poolRestsSpec)

/-- 'gatepostlaw21.PoolDoes', WHERE WHAT IT READS IS OF BULK AT MOST 1048576: true; the input reads as it did. -/
def poolDoesUptoRow : OpenClaim := { program := "ytabejnjnkpdjbaa", sum := "bd00cad2f60a9eda14779cb790f9b885aece61a0aebd49c74d96d5815ce31547", func := "gatepost/gatepostlaw21.PoolDoes", spec := "poolDoes", unfollowed := true, recurses := true, apart := false, narrowed := true }
def PoolDoesUptoSaid : Prop := poolDoesUptoRow.holds Try.pinned (OpenSpec.upto poolDoesSpec)

/-- 'gatepostlaw21.PoolTakesIn', WHERE WHAT IT READS IS OF BULK AT MOST 1048576: true; the input reads as it did. -/
def poolTakesInUptoRow : OpenClaim := { program := "ytabejnjnkpdjbaa", sum := "bd00cad2f60a9eda14779cb790f9b885aece61a0aebd49c74d96d5815ce31547", func := "gatepost/gatepostlaw21.PoolTakesIn", spec := "poolTakesIn", unfollowed := true, recurses := true, apart := false, narrowed := true }
def PoolTakesInUptoSaid : Prop := poolTakesInUptoRow.holds Try.pinned (OpenSpec.upto poolTakesInSpec)

end Rows
end Go.Proofs.Ytabejnjnkpdjbaa
