/-
  No cell of these rows narrows 'for every input' (looked for: loops, veiled, ifaces, maps, wideKeys, modest, calm, conditions, laid).
  DERIVED. THE GIVEN ROWS OF THIS SEAT. 5 by the template 'for every input the law returns true; each argument reads behind the call as it read before'; 0 by the template 'total and deterministic' (their statements: YtmjckopplkihlaaTotals.lean).
  GIVEN WITH THE SEED: the statements are not yours to turn. If you find one false, say at which input.
  Laid BY PROGRAM, IN A SANDBOX (cutbox-rows.mjs): the forced cells as the released guide's own fill.sh prints them over the translation 6fe205fa55069208… (all of the seat's roots in one cut). By AI agents, Wed Nov 11 2026. No macro, syntax, notation, axiom, sorry.
-/
import Derived.Test.YtmjckopplkihlaaChecked
import GoSem.Claim
import GoSem.ClaimJoined
import GoSem.ClaimMapViews
import Derived.JoinedTies
import Derived.KernelRfl
namespace Go.Proofs.Ytmjckopplkihlaa
/- THE CELL 'sum', in the pinned program and in every row, IS THE sha256 OF THE DUMP (.gsa) THAT YtmjckopplkihlaaProg.lean LOADS. Nothing in Lean hashes anything: it is a label: what it is worth is what the hold of that sum in a sandbox is worth. -/
noncomputable def Try.pinned : Pinned := { name := "ytmjckopplkihlaa", sum := "6fe205fa550692082b7a9abebd04b02da909f29df28e78577865c3587232ee2f", checked := Try.checked }
namespace Rows
def none {H : Type} : Left H := { results := [], args := [] }

/-- 'gatepostlaw24.TimersDo': WHATEVER THE INPUT: true; the input reads as it did. -/
def timersDoSpec : ChangeSpec := { name := "timersDo", fn := fun _ => fun
  | [d1, d2, d3, d4] => { results := [.lit (.bool true)], args := [d1, d2, d3, d4] }
  | _ => none }
def timersDoRow : OpenClaim := { program := "ytmjckopplkihlaa", sum := "6fe205fa550692082b7a9abebd04b02da909f29df28e78577865c3587232ee2f", func := "gatepost/gatepostlaw24.TimersDo", spec := "timersDo", inPlace := ["slices.overlaps[gatepost/api.Due]"], unfollowed := true, recurses := true, apart := false }
def TimersDoSaid : Prop := timersDoRow.holds Try.pinned (OpenSpec.ofChange timersDoSpec)

/-- ITS FALSE NEIGHBOUR: 'it returns false'. Refute it at one input. -/
def timersDoWrong : ChangeSpec := { name := "timersDo", fn := fun _ => fun
  | [d1, d2, d3, d4] => { results := [.lit (.bool false)], args := [d1, d2, d3, d4] }
  | _ => none }
def TimersDoWrongFalsely : Prop := timersDoRow.holds Try.pinned (OpenSpec.ofChange timersDoWrong)

/-- 'gatepostlaw24.TimersStay': WHATEVER THE INPUT: true; the input reads as it did. -/
def timersStaySpec : ChangeSpec := { name := "timersStay", fn := fun _ => fun
  | [d1, d2, d3] => { results := [.lit (.bool true)], args := [d1, d2, d3] }
  | _ => none }
def timersStayRow : OpenClaim := { program := "ytmjckopplkihlaa", sum := "6fe205fa550692082b7a9abebd04b02da909f29df28e78577865c3587232ee2f", func := "gatepost/gatepostlaw24.TimersStay", spec := "timersStay", inPlace := ["slices.overlaps[gatepost/api.Due]"], unfollowed := true, recurses := true, apart := false }
def TimersStaySaid : Prop := timersStayRow.holds Try.pinned (OpenSpec.ofChange timersStaySpec)

/-- ITS FALSE NEIGHBOUR: 'it returns false'. Refute it at one input. -/
def timersStayWrong : ChangeSpec := { name := "timersStay", fn := fun _ => fun
  | [d1, d2, d3] => { results := [.lit (.bool false)], args := [d1, d2, d3] }
  | _ => none }
def TimersStayWrongFalsely : Prop := timersStayRow.holds Try.pinned (OpenSpec.ofChange timersStayWrong)

/-- 'gatepostlaw24.TimersTime': WHATEVER THE INPUT: true; the input reads as it did. -/
def timersTimeSpec : ChangeSpec := { name := "timersTime", fn := fun _ => fun
  | [d1, d2] => { results := [.lit (.bool true)], args := [d1, d2] }
  | _ => none }
def timersTimeRow : OpenClaim := { program := "ytmjckopplkihlaa", sum := "6fe205fa550692082b7a9abebd04b02da909f29df28e78577865c3587232ee2f", func := "gatepost/gatepostlaw24.TimersTime", spec := "timersTime", inPlace := ["slices.overlaps[gatepost/api.Due]"], unfollowed := true, recurses := true, apart := false }
def TimersTimeSaid : Prop := timersTimeRow.holds Try.pinned (OpenSpec.ofChange timersTimeSpec)

/-- ITS FALSE NEIGHBOUR: 'it returns false'. Refute it at one input. -/
def timersTimeWrong : ChangeSpec := { name := "timersTime", fn := fun _ => fun
  | [d1, d2] => { results := [.lit (.bool false)], args := [d1, d2] }
  | _ => none }
def TimersTimeWrongFalsely : Prop := timersTimeRow.holds Try.pinned (OpenSpec.ofChange timersTimeWrong)

/-- 'gatepostlaw24.TimersAny': WHATEVER THE INPUT: true; the input reads as it did. -/
def timersAnySpec : ChangeSpec := { name := "timersAny", fn := fun _ => fun
  | [d] => { results := [.lit (.bool true)], args := [d] }
  | _ => none }
def timersAnyRow : OpenClaim := { program := "ytmjckopplkihlaa", sum := "6fe205fa550692082b7a9abebd04b02da909f29df28e78577865c3587232ee2f", func := "gatepost/gatepostlaw24.TimersAny", spec := "timersAny", inPlace := ["slices.overlaps[gatepost/api.Due]"], unfollowed := true, recurses := true, apart := false }
def TimersAnySaid : Prop := timersAnyRow.holds Try.pinned (OpenSpec.ofChange timersAnySpec)

/-- ITS FALSE NEIGHBOUR: 'it returns false'. Refute it at one input. -/
def timersAnyWrong : ChangeSpec := { name := "timersAny", fn := fun _ => fun
  | [d] => { results := [.lit (.bool false)], args := [d] }
  | _ => none }
def TimersAnyWrongFalsely : Prop := timersAnyRow.holds Try.pinned (OpenSpec.ofChange timersAnyWrong)

/-- 'gatepostlaw24.TimersSplit': WHATEVER THE INPUT: true; the input reads as it did. -/
def timersSplitSpec : ChangeSpec := { name := "timersSplit", fn := fun _ => fun
  | [d1, d2, d3] => { results := [.lit (.bool true)], args := [d1, d2, d3] }
  | _ => none }
def timersSplitRow : OpenClaim := { program := "ytmjckopplkihlaa", sum := "6fe205fa550692082b7a9abebd04b02da909f29df28e78577865c3587232ee2f", func := "gatepost/gatepostlaw24.TimersSplit", spec := "timersSplit", inPlace := ["slices.overlaps[gatepost/api.Due]"], unfollowed := true, recurses := true, apart := false }
def TimersSplitSaid : Prop := timersSplitRow.holds Try.pinned (OpenSpec.ofChange timersSplitSpec)

/-- ITS FALSE NEIGHBOUR: 'it returns false'. Refute it at one input. -/
def timersSplitWrong : ChangeSpec := { name := "timersSplit", fn := fun _ => fun
  | [d1, d2, d3] => { results := [.lit (.bool false)], args := [d1, d2, d3] }
  | _ => none }
def TimersSplitWrongFalsely : Prop := timersSplitRow.holds Try.pinned (OpenSpec.ofChange timersSplitWrong)

/- THE SECOND FORM. 'bulk': how many values and letters a reading holds, each counted each time it is reached (what is shared counts as often as it is met; a slice's spare places count too). A statement '..UptoSaid' is the law's where the arguments, and the package variables that the reading takes, are together of bulk at most 1048576: NARROWER than '..Said'. Prove '..Said' where nothing that the law and all that it calls make is longer than what came in: it says more and counts as full. Else prove '..UptoSaid'. A law counts once. -/
mutual
def uptoBulk {H : Type} : DataW H → Nat
  | .lit (.string bytes) => bytes.length + 1
  | .lit _ => 1
  | .nil => 1
  | .ptr d => uptoBulk d + 1
  | .slice elems spare => uptoBulkAll elems + uptoBulkAll spare + 1
  | .agg parts => uptoBulkAll parts + 1
  | .iface _ d => uptoBulk d + 1
  | .map entries => uptoBulkEntries entries + 1
  | .held _ => 1
def uptoBulkAll {H : Type} : List (DataW H) → Nat
  | [] => 0
  | d :: r => uptoBulk d + uptoBulkAll r
def uptoBulkEntries {H : Type} : List (Lit × DataW H) → Nat
  | [] => 0
  | x :: r => uptoBulkEntry x + uptoBulkEntries r
def uptoBulkEntry {H : Type} : Lit × DataW H → Nat
  | (.string bytes, d) => bytes.length + uptoBulk d + 1
  | (_, d) => uptoBulk d + 1
 end
def uptoSmall : (H : Type) → List (DataW H) → Bool := fun _ ds => decide (uptoBulkAll ds ≤ 1048576)
def OpenSpec.upto (s : _root_.Go.ChangeSpec) : _root_.Go.OpenSpec := { _root_.Go.OpenSpec.ofChange s with cond := some uptoSmall }

/-- 'gatepostlaw24.TimersDo', WHERE WHAT IT READS IS OF BULK AT MOST 1048576: true; the input reads as it did. -/
def timersDoUptoRow : OpenClaim := { program := "ytmjckopplkihlaa", sum := "6fe205fa550692082b7a9abebd04b02da909f29df28e78577865c3587232ee2f", func := "gatepost/gatepostlaw24.TimersDo", spec := "timersDo", inPlace := ["slices.overlaps[gatepost/api.Due]"], unfollowed := true, recurses := true, apart := false, narrowed := true }
def TimersDoUptoSaid : Prop := timersDoUptoRow.holds Try.pinned (OpenSpec.upto timersDoSpec)

/-- 'gatepostlaw24.TimersStay', WHERE WHAT IT READS IS OF BULK AT MOST 1048576: true; the input reads as it did. -/
def timersStayUptoRow : OpenClaim := { program := "ytmjckopplkihlaa", sum := "6fe205fa550692082b7a9abebd04b02da909f29df28e78577865c3587232ee2f", func := "gatepost/gatepostlaw24.TimersStay", spec := "timersStay", inPlace := ["slices.overlaps[gatepost/api.Due]"], unfollowed := true, recurses := true, apart := false, narrowed := true }
def TimersStayUptoSaid : Prop := timersStayUptoRow.holds Try.pinned (OpenSpec.upto timersStaySpec)

/-- 'gatepostlaw24.TimersTime', WHERE WHAT IT READS IS OF BULK AT MOST 1048576: true; the input reads as it did. -/
def timersTimeUptoRow : OpenClaim := { program := "ytmjckopplkihlaa", sum := "6fe205fa550692082b7a9abebd04b02da909f29df28e78577865c3587232ee2f", func := "gatepost/gatepostlaw24.TimersTime", spec := "timersTime", inPlace := ["slices.overlaps[gatepost/api.Due]"], unfollowed := true, recurses := true, apart := false, narrowed := true }
def TimersTimeUptoSaid : Prop := timersTimeUptoRow.holds Try.pinned (OpenSpec.upto timersTimeSpec)

/-- 'gatepostlaw24.TimersAny', WHERE WHAT IT READS IS OF BULK AT MOST 1048576: true; the input reads as it did. -/
def timersAnyUptoRow : OpenClaim := { program := "ytmjckopplkihlaa", sum := "6fe205fa550692082b7a9abebd04b02da909f29df28e78577865c3587232ee2f", func := "gatepost/gatepostlaw24.TimersAny", spec := "timersAny", inPlace := ["slices.overlaps[gatepost/api.Due]"], unfollowed := true, recurses := true, apart := false, narrowed := true }
def TimersAnyUptoSaid : Prop := timersAnyUptoRow.holds Try.pinned (OpenSpec.upto timersAnySpec)

/-- 'gatepostlaw24.TimersSplit', WHERE WHAT IT READS IS OF BULK AT MOST 1048576: true; the input reads as it did. -/
def timersSplitUptoRow : OpenClaim := { program := "ytmjckopplkihlaa", sum := "6fe205fa550692082b7a9abebd04b02da909f29df28e78577865c3587232ee2f", func := "gatepost/gatepostlaw24.TimersSplit", spec := "timersSplit", inPlace := ["slices.overlaps[gatepost/api.Due]"], unfollowed := true, recurses := true, apart := false, narrowed := true }
def TimersSplitUptoSaid : Prop := timersSplitUptoRow.holds Try.pinned (OpenSpec.upto timersSplitSpec)

end Rows
end Go.Proofs.Ytmjckopplkihlaa
