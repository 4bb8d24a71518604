/-
  No cell of these rows narrows 'for every input' (looked for: loops, veiled, ifaces, maps, wideKeys, modest, calm, conditions, laid).
  DERIVED. THE GIVEN ROWS OF THIS SEAT. 13 by the template 'for every input the law returns true; each argument reads behind the call as it read before'; 0 by the template 'total and deterministic' (their statements: YtlcecabfmemfeaaTotals.lean).
  GIVEN WITH THE SEED: the statements are not yours to turn. If you find one false, say at which input.
  Laid BY PROGRAM, IN A SANDBOX (cutbox-rows.mjs): the forced cells as the released guide's own fill.sh prints them over the translation 1f5be5197b9bdc43… (all of the seat's roots in one cut). By AI agents, Wed Nov 11 2026. No macro, syntax, notation, axiom, sorry.
-/
import Derived.Test.YtlcecabfmemfeaaChecked
import GoSem.Claim
import GoSem.ClaimJoined
import GoSem.ClaimMapViews
import Derived.JoinedTies
import Derived.KernelRfl
namespace Go.Proofs.Ytlcecabfmemfeaa
/- THE CELL 'sum', in the pinned program and in every row, IS THE sha256 OF THE DUMP (.gsa) THAT YtlcecabfmemfeaaProg.lean LOADS. Nothing in Lean hashes anything: it is a label: what it is worth is what the hold of that sum in a sandbox is worth. -/
noncomputable def Try.pinned : Pinned := { name := "ytlcecabfmemfeaa", sum := "1f5be5197b9bdc43b5faff89ef05caa3fbe99fb6562b7851a338c280aa2d0bc7", checked := Try.checked }
namespace Rows
def none {H : Type} : Left H := { results := [], args := [] }

/-- 'gatepostlaw07.MatchImplies': WHATEVER THE INPUT: true; the input reads as it did. -/
def matchImpliesSpec : ChangeSpec := { name := "matchImplies", fn := fun _ => fun
  | [d1, d2] => { results := [.lit (.bool true)], args := [d1, d2] }
  | _ => none }
def matchImpliesRow : OpenClaim := { program := "ytlcecabfmemfeaa", sum := "1f5be5197b9bdc43b5faff89ef05caa3fbe99fb6562b7851a338c280aa2d0bc7", func := "gatepost/gatepostlaw07.MatchImplies", spec := "matchImplies", unfollowed := true, recurses := true, apart := false }
def MatchImpliesSaid : Prop := matchImpliesRow.holds Try.pinned (OpenSpec.ofChange matchImpliesSpec)

/-- ITS FALSE NEIGHBOUR: 'it returns false'. Refute it at one input. -/
def matchImpliesWrong : ChangeSpec := { name := "matchImplies", fn := fun _ => fun
  | [d1, d2] => { results := [.lit (.bool false)], args := [d1, d2] }
  | _ => none }
def MatchImpliesWrongFalsely : Prop := matchImpliesRow.holds Try.pinned (OpenSpec.ofChange matchImpliesWrong)

/-- 'gatepostlaw07.MatchGoesOn': WHATEVER THE INPUT: true; the input reads as it did. -/
def matchGoesOnSpec : ChangeSpec := { name := "matchGoesOn", fn := fun _ => fun
  | [d1, d2, d3, d4] => { results := [.lit (.bool true)], args := [d1, d2, d3, d4] }
  | _ => none }
def matchGoesOnRow : OpenClaim := { program := "ytlcecabfmemfeaa", sum := "1f5be5197b9bdc43b5faff89ef05caa3fbe99fb6562b7851a338c280aa2d0bc7", func := "gatepost/gatepostlaw07.MatchGoesOn", spec := "matchGoesOn", unfollowed := true, recurses := true, apart := false }
def MatchGoesOnSaid : Prop := matchGoesOnRow.holds Try.pinned (OpenSpec.ofChange matchGoesOnSpec)

/-- ITS FALSE NEIGHBOUR: 'it returns false'. Refute it at one input. -/
def matchGoesOnWrong : ChangeSpec := { name := "matchGoesOn", fn := fun _ => fun
  | [d1, d2, d3, d4] => { results := [.lit (.bool false)], args := [d1, d2, d3, d4] }
  | _ => none }
def MatchGoesOnWrongFalsely : Prop := matchGoesOnRow.holds Try.pinned (OpenSpec.ofChange matchGoesOnWrong)

/-- 'gatepostlaw07.MatchBack': WHATEVER THE INPUT: true; the input reads as it did. -/
def matchBackSpec : ChangeSpec := { name := "matchBack", fn := fun _ => fun
  | [d1, d2, d3] => { results := [.lit (.bool true)], args := [d1, d2, d3] }
  | _ => none }
def matchBackRow : OpenClaim := { program := "ytlcecabfmemfeaa", sum := "1f5be5197b9bdc43b5faff89ef05caa3fbe99fb6562b7851a338c280aa2d0bc7", func := "gatepost/gatepostlaw07.MatchBack", spec := "matchBack", unfollowed := true, recurses := true, apart := false }
def MatchBackSaid : Prop := matchBackRow.holds Try.pinned (OpenSpec.ofChange matchBackSpec)

/-- ITS FALSE NEIGHBOUR: 'it returns false'. Refute it at one input. -/
def matchBackWrong : ChangeSpec := { name := "matchBack", fn := fun _ => fun
  | [d1, d2, d3] => { results := [.lit (.bool false)], args := [d1, d2, d3] }
  | _ => none }
def MatchBackWrongFalsely : Prop := matchBackRow.holds Try.pinned (OpenSpec.ofChange matchBackWrong)

/-- 'gatepostlaw07.MatchRows': WHATEVER THE INPUT: true; the input reads as it did. -/
def matchRowsSpec : ChangeSpec := { name := "matchRows", fn := fun _ => fun
  | [d1, d2, d3] => { results := [.lit (.bool true)], args := [d1, d2, d3] }
  | _ => none }
def matchRowsRow : OpenClaim := { program := "ytlcecabfmemfeaa", sum := "1f5be5197b9bdc43b5faff89ef05caa3fbe99fb6562b7851a338c280aa2d0bc7", func := "gatepost/gatepostlaw07.MatchRows", spec := "matchRows", unfollowed := true, recurses := true, apart := false }
def MatchRowsSaid : Prop := matchRowsRow.holds Try.pinned (OpenSpec.ofChange matchRowsSpec)

/-- ITS FALSE NEIGHBOUR: 'it returns false'. Refute it at one input. -/
def matchRowsWrong : ChangeSpec := { name := "matchRows", fn := fun _ => fun
  | [d1, d2, d3] => { results := [.lit (.bool false)], args := [d1, d2, d3] }
  | _ => none }
def MatchRowsWrongFalsely : Prop := matchRowsRow.holds Try.pinned (OpenSpec.ofChange matchRowsWrong)

/-- 'gatepostlaw07.MatchTerms': WHATEVER THE INPUT: true; the input reads as it did. -/
def matchTermsSpec : ChangeSpec := { name := "matchTerms", fn := fun _ => fun
  | [d1, d2, d3] => { results := [.lit (.bool true)], args := [d1, d2, d3] }
  | _ => none }
def matchTermsRow : OpenClaim := { program := "ytlcecabfmemfeaa", sum := "1f5be5197b9bdc43b5faff89ef05caa3fbe99fb6562b7851a338c280aa2d0bc7", func := "gatepost/gatepostlaw07.MatchTerms", spec := "matchTerms", unfollowed := true, recurses := true, apart := false }
def MatchTermsSaid : Prop := matchTermsRow.holds Try.pinned (OpenSpec.ofChange matchTermsSpec)

/-- ITS FALSE NEIGHBOUR: 'it returns false'. Refute it at one input. -/
def matchTermsWrong : ChangeSpec := { name := "matchTerms", fn := fun _ => fun
  | [d1, d2, d3] => { results := [.lit (.bool false)], args := [d1, d2, d3] }
  | _ => none }
def MatchTermsWrongFalsely : Prop := matchTermsRow.holds Try.pinned (OpenSpec.ofChange matchTermsWrong)

/-- 'gatepostlaw13.AuthJudge': WHATEVER THE INPUT: true; the input reads as it did. -/
def authJudgeSpec : ChangeSpec := { name := "authJudge", fn := fun _ => fun
  | [d1, d2, d3, d4] => { results := [.lit (.bool true)], args := [d1, d2, d3, d4] }
  | _ => none }
def authJudgeRow : OpenClaim := { program := "ytlcecabfmemfeaa", sum := "1f5be5197b9bdc43b5faff89ef05caa3fbe99fb6562b7851a338c280aa2d0bc7", func := "gatepost/gatepostlaw13.AuthJudge", spec := "authJudge", unfollowed := true, recurses := true, apart := false }
def AuthJudgeSaid : Prop := authJudgeRow.holds Try.pinned (OpenSpec.ofChange authJudgeSpec)

/-- ITS FALSE NEIGHBOUR: 'it returns false'. Refute it at one input. -/
def authJudgeWrong : ChangeSpec := { name := "authJudge", fn := fun _ => fun
  | [d1, d2, d3, d4] => { results := [.lit (.bool false)], args := [d1, d2, d3, d4] }
  | _ => none }
def AuthJudgeWrongFalsely : Prop := authJudgeRow.holds Try.pinned (OpenSpec.ofChange authJudgeWrong)

/-- 'gatepostlaw13.AuthMore': WHATEVER THE INPUT: true; the input reads as it did. -/
def authMoreSpec : ChangeSpec := { name := "authMore", fn := fun _ => fun
  | [d1, d2, d3, d4, d5, d6, d7] => { results := [.lit (.bool true)], args := [d1, d2, d3, d4, d5, d6, d7] }
  | _ => none }
def authMoreRow : OpenClaim := { program := "ytlcecabfmemfeaa", sum := "1f5be5197b9bdc43b5faff89ef05caa3fbe99fb6562b7851a338c280aa2d0bc7", func := "gatepost/gatepostlaw13.AuthMore", spec := "authMore", unfollowed := true, recurses := true, apart := false }
def AuthMoreSaid : Prop := authMoreRow.holds Try.pinned (OpenSpec.ofChange authMoreSpec)

/-- ITS FALSE NEIGHBOUR: 'it returns false'. Refute it at one input. -/
def authMoreWrong : ChangeSpec := { name := "authMore", fn := fun _ => fun
  | [d1, d2, d3, d4, d5, d6, d7] => { results := [.lit (.bool false)], args := [d1, d2, d3, d4, d5, d6, d7] }
  | _ => none }
def AuthMoreWrongFalsely : Prop := authMoreRow.holds Try.pinned (OpenSpec.ofChange authMoreWrong)

/-- 'gatepostlaw13.AuthOrder': WHATEVER THE INPUT: true; the input reads as it did. -/
def authOrderSpec : ChangeSpec := { name := "authOrder", fn := fun _ => fun
  | [d1, d2, d3, d4, d5] => { results := [.lit (.bool true)], args := [d1, d2, d3, d4, d5] }
  | _ => none }
def authOrderRow : OpenClaim := { program := "ytlcecabfmemfeaa", sum := "1f5be5197b9bdc43b5faff89ef05caa3fbe99fb6562b7851a338c280aa2d0bc7", func := "gatepost/gatepostlaw13.AuthOrder", spec := "authOrder", unfollowed := true, recurses := true, apart := false }
def AuthOrderSaid : Prop := authOrderRow.holds Try.pinned (OpenSpec.ofChange authOrderSpec)

/-- ITS FALSE NEIGHBOUR: 'it returns false'. Refute it at one input. -/
def authOrderWrong : ChangeSpec := { name := "authOrder", fn := fun _ => fun
  | [d1, d2, d3, d4, d5] => { results := [.lit (.bool false)], args := [d1, d2, d3, d4, d5] }
  | _ => none }
def AuthOrderWrongFalsely : Prop := authOrderRow.holds Try.pinned (OpenSpec.ofChange authOrderWrong)

/-- 'gatepostlaw13.AuthNone': WHATEVER THE INPUT: true; the input reads as it did. -/
def authNoneSpec : ChangeSpec := { name := "authNone", fn := fun _ => fun
  | [d1, d2, d3, d4] => { results := [.lit (.bool true)], args := [d1, d2, d3, d4] }
  | _ => none }
def authNoneRow : OpenClaim := { program := "ytlcecabfmemfeaa", sum := "1f5be5197b9bdc43b5faff89ef05caa3fbe99fb6562b7851a338c280aa2d0bc7", func := "gatepost/gatepostlaw13.AuthNone", spec := "authNone", unfollowed := true, recurses := true, apart := false }
def AuthNoneSaid : Prop := authNoneRow.holds Try.pinned (OpenSpec.ofChange authNoneSpec)

/-- ITS FALSE NEIGHBOUR: 'it returns false'. Refute it at one input. -/
def authNoneWrong : ChangeSpec := { name := "authNone", fn := fun _ => fun
  | [d1, d2, d3, d4] => { results := [.lit (.bool false)], args := [d1, d2, d3, d4] }
  | _ => none }
def AuthNoneWrongFalsely : Prop := authNoneRow.holds Try.pinned (OpenSpec.ofChange authNoneWrong)

/-- 'gatepostlaw13.AuthMatches': WHATEVER THE INPUT: true; the input reads as it did. -/
def authMatchesSpec : ChangeSpec := { name := "authMatches", fn := fun _ => fun
  | [d1, d2, d3, d4, d5, d6, d7] => { results := [.lit (.bool true)], args := [d1, d2, d3, d4, d5, d6, d7] }
  | _ => none }
def authMatchesRow : OpenClaim := { program := "ytlcecabfmemfeaa", sum := "1f5be5197b9bdc43b5faff89ef05caa3fbe99fb6562b7851a338c280aa2d0bc7", func := "gatepost/gatepostlaw13.AuthMatches", spec := "authMatches", unfollowed := true, recurses := true, apart := false }
def AuthMatchesSaid : Prop := authMatchesRow.holds Try.pinned (OpenSpec.ofChange authMatchesSpec)

/-- ITS FALSE NEIGHBOUR: 'it returns false'. Refute it at one input. -/
def authMatchesWrong : ChangeSpec := { name := "authMatches", fn := fun _ => fun
  | [d1, d2, d3, d4, d5, d6, d7] => { results := [.lit (.bool false)], args := [d1, d2, d3, d4, d5, d6, d7] }
  | _ => none }
def AuthMatchesWrongFalsely : Prop := authMatchesRow.holds Try.pinned (OpenSpec.ofChange authMatchesWrong)

/-- 'gatepostlaw13.AuthBlind': WHATEVER THE INPUT: true; the input reads as it did. -/
def authBlindSpec : ChangeSpec := { name := "authBlind", fn := fun _ => fun
  | [d1, d2, d3, d4, d5, d6, d7] => { results := [.lit (.bool true)], args := [d1, d2, d3, d4, d5, d6, d7] }
  | _ => none }
def authBlindRow : OpenClaim := { program := "ytlcecabfmemfeaa", sum := "1f5be5197b9bdc43b5faff89ef05caa3fbe99fb6562b7851a338c280aa2d0bc7", func := "gatepost/gatepostlaw13.AuthBlind", spec := "authBlind", unfollowed := true, recurses := true, apart := false }
def AuthBlindSaid : Prop := authBlindRow.holds Try.pinned (OpenSpec.ofChange authBlindSpec)

/-- ITS FALSE NEIGHBOUR: 'it returns false'. Refute it at one input. -/
def authBlindWrong : ChangeSpec := { name := "authBlind", fn := fun _ => fun
  | [d1, d2, d3, d4, d5, d6, d7] => { results := [.lit (.bool false)], args := [d1, d2, d3, d4, d5, d6, d7] }
  | _ => none }
def AuthBlindWrongFalsely : Prop := authBlindRow.holds Try.pinned (OpenSpec.ofChange authBlindWrong)

/-- 'gatepostlaw14.SplitWhole': WHATEVER THE INPUT: true; the input reads as it did. -/
def splitWholeSpec : ChangeSpec := { name := "splitWhole", fn := fun _ => fun
  | [d1, d2, d3, d4] => { results := [.lit (.bool true)], args := [d1, d2, d3, d4] }
  | _ => none }
def splitWholeRow : OpenClaim := { program := "ytlcecabfmemfeaa", sum := "1f5be5197b9bdc43b5faff89ef05caa3fbe99fb6562b7851a338c280aa2d0bc7", func := "gatepost/gatepostlaw14.SplitWhole", spec := "splitWhole", unfollowed := true, recurses := true, apart := false }
def SplitWholeSaid : Prop := splitWholeRow.holds Try.pinned (OpenSpec.ofChange splitWholeSpec)

/-- ITS FALSE NEIGHBOUR: 'it returns false'. Refute it at one input. -/
def splitWholeWrong : ChangeSpec := { name := "splitWhole", fn := fun _ => fun
  | [d1, d2, d3, d4] => { results := [.lit (.bool false)], args := [d1, d2, d3, d4] }
  | _ => none }
def SplitWholeWrongFalsely : Prop := splitWholeRow.holds Try.pinned (OpenSpec.ofChange splitWholeWrong)

/-- 'gatepostlaw14.SplitAlone': WHATEVER THE INPUT: true; the input reads as it did. -/
def splitAloneSpec : ChangeSpec := { name := "splitAlone", fn := fun _ => fun
  | [d1, d2, d3, d4] => { results := [.lit (.bool true)], args := [d1, d2, d3, d4] }
  | _ => none }
def splitAloneRow : OpenClaim := { program := "ytlcecabfmemfeaa", sum := "1f5be5197b9bdc43b5faff89ef05caa3fbe99fb6562b7851a338c280aa2d0bc7", func := "gatepost/gatepostlaw14.SplitAlone", spec := "splitAlone", unfollowed := true, recurses := true, apart := false }
def SplitAloneSaid : Prop := splitAloneRow.holds Try.pinned (OpenSpec.ofChange splitAloneSpec)

/-- ITS FALSE NEIGHBOUR: 'it returns false'. Refute it at one input. -/
def splitAloneWrong : ChangeSpec := { name := "splitAlone", fn := fun _ => fun
  | [d1, d2, d3, d4] => { results := [.lit (.bool false)], args := [d1, d2, d3, d4] }
  | _ => none }
def SplitAloneWrongFalsely : Prop := splitAloneRow.holds Try.pinned (OpenSpec.ofChange splitAloneWrong)

/- THE SECOND FORM. 'bulk': how many values and letters a reading holds, each counted each time it is reached (what is shared counts as often as it is met; a slice's spare places count too). A statement '..UptoSaid' is the law's where the arguments, and the package variables that the reading takes, are together of bulk at most 1048576: NARROWER than '..Said'. Prove '..Said' where nothing that the law and all that it calls make is longer than what came in: it says more and counts as full. Else prove '..UptoSaid'. A law counts once. -/
mutual
def uptoBulk {H : Type} : DataW H → Nat
  | .lit (.string bytes) => bytes.length + 1
  | .lit _ => 1
  | .nil => 1
  | .ptr d => uptoBulk d + 1
  | .slice elems spare => uptoBulkAll elems + uptoBulkAll spare + 1
  | .agg parts => uptoBulkAll parts + 1
  | .iface _ d => uptoBulk d + 1
  | .map entries => uptoBulkEntries entries + 1
  | .held _ => 1
def uptoBulkAll {H : Type} : List (DataW H) → Nat
  | [] => 0
  | d :: r => uptoBulk d + uptoBulkAll r
def uptoBulkEntries {H : Type} : List (Lit × DataW H) → Nat
  | [] => 0
  | x :: r => uptoBulkEntry x + uptoBulkEntries r
def uptoBulkEntry {H : Type} : Lit × DataW H → Nat
  | (.string bytes, d) => bytes.length + uptoBulk d + 1
  | (_, d) => uptoBulk d + 1
 end
def uptoSmall : (H : Type) → List (DataW H) → Bool := fun _ ds => decide (uptoBulkAll ds ≤ 1048576)
def OpenSpec.upto (s : _root_.Go.ChangeSpec) : _root_.Go.OpenSpec := { _root_.Go.OpenSpec.ofChange s with cond := some uptoSmall }

/-- 'gatepostlaw07.MatchImplies', WHERE WHAT IT READS IS OF BULK AT MOST 1048576: true; the input reads as it did. -/
def matchImpliesUptoRow : OpenClaim := { program := "ytlcecabfmemfeaa", sum := "1f5be5197b9bdc43b5faff89ef05caa3fbe99fb6562b7851a338c280aa2d0bc7", func := "gatepost/gatepostlaw07.MatchImplies", spec := "matchImplies", unfollowed := true, recurses := true, apart := false, narrowed := true }
def MatchImpliesUptoSaid : Prop := matchImpliesUptoRow.holds Try.pinned (OpenSpec.upto matchImpliesSpec)

/-- 'gatepostlaw07.MatchGoesOn', WHERE WHAT IT READS IS OF BULK AT MOST 1048576: true; the input reads as it did. -/
def matchGoesOnUptoRow : OpenClaim := { program := "ytlcecabfmemfeaa", sum := "1f5be5197b9bdc43b5faff89ef05caa3fbe99fb6562b7851a338c280aa2d0bc7", func := "gatepost/gatepostlaw07.MatchGoesOn", spec := "matchGoesOn", unfollowed := true, recurses := true, apart := false, narrowed := true }
def MatchGoesOnUptoSaid : Prop := matchGoesOnUptoRow.holds Try.pinned (OpenSpec.upto matchGoesOnSpec)

/-- 'gatepostlaw07.MatchBack', WHERE WHAT IT READS IS OF BULK AT MOST 1048576: true; the input reads as it did. -/
def matchBackUptoRow : OpenClaim := { program := "ytlcecabfmemfeaa", sum := "1f5be5197b9bdc43b5faff89ef05caa3fbe99fb6562b7851a338c280aa2d0bc7", func := "gatepost/gatepostlaw07.MatchBack", spec := "matchBack", unfollowed := true, recurses := true, apart := false, narrowed := true }
def MatchBackUptoSaid : Prop := matchBackUptoRow.holds Try.pinned (OpenSpec.upto matchBackSpec)

/-- 'gatepostlaw07.MatchRows', WHERE WHAT IT READS IS OF BULK AT MOST 1048576: true; the input reads as it did. -/
def matchRowsUptoRow : OpenClaim := { program := "ytlcecabfmemfeaa", sum := "1f5be5197b9bdc43b5faff89ef05caa3fbe99fb6562b7851a338c280aa2d0bc7", func := "gatepost/gatepostlaw07.MatchRows", spec := "matchRows", unfollowed := true, recurses := true, apart := false, narrowed := true }
def MatchRowsUptoSaid : Prop := matchRowsUptoRow.holds Try.pinned (OpenSpec.upto matchRowsSpec)

/-- 'gatepostlaw07.MatchTerms', WHERE WHAT IT READS IS OF BULK AT MOST 1048576: true; the input reads as it did. -/
def matchTermsUptoRow : OpenClaim := { program := "ytlcecabfmemfeaa", sum := "1f5be5197b9bdc43b5faff89ef05caa3fbe99fb6562b7851a338c280aa2d0bc7", func := "gatepost/gatepostlaw07.MatchTerms", spec := "matchTerms", unfollowed := true, recurses := true, apart := false, narrowed := true }
def MatchTermsUptoSaid : Prop := matchTermsUptoRow.holds Try.pinned (OpenSpec.upto matchTermsSpec)

/-- 'gatepostlaw13.AuthJudge', WHERE WHAT IT READS IS OF BULK AT MOST 1048576: true; the input reads as it did. -/
def authJudgeUptoRow : OpenClaim := { program := "ytlcecabfmemfeaa", sum := "1f5be5197b9bdc43b5faff89ef05caa3fbe99fb6562b7851a338c280aa2d0bc7", func := "gatepost/gatepostlaw13.AuthJudge", spec := "authJudge", unfollowed := true, recurses := true, apart := false, narrowed := true }
def AuthJudgeUptoSaid : Prop := authJudgeUptoRow.holds Try.pinned (OpenSpec.upto authJudgeSpec)

/-- 'gatepostlaw13.AuthMore', WHERE WHAT IT READS IS OF BULK AT MOST 1048576: true; the input reads as it did. -/
def authMoreUptoRow : OpenClaim := { program := "ytlcecabfmemfeaa", sum := "1f5be5197b9bdc43b5faff89ef05caa3fbe99fb6562b7851a338c280aa2d0bc7", func := "gatepost/gatepostlaw13.AuthMore", spec := "authMore", unfollowed := true, recurses := true, apart := false, narrowed := true }
def AuthMoreUptoSaid : Prop := authMoreUptoRow.holds Try.pinned (OpenSpec.upto authMoreSpec)

/-- 'gatepostlaw13.AuthOrder', WHERE WHAT IT READS IS OF BULK AT MOST 1048576: true; the input reads as it did. -/
def authOrderUptoRow : OpenClaim := { program := "ytlcecabfmemfeaa", sum := "1f5be5197b9bdc43b5faff89ef05caa3fbe99fb6562b7851a338c280aa2d0bc7", func := "gatepost/gatepostlaw13.AuthOrder", spec := "authOrder", unfollowed := true, recurses := true, apart := false, narrowed := true }
def AuthOrderUptoSaid : Prop := authOrderUptoRow.holds Try.pinned (OpenSpec.upto authOrderSpec)

/-- 'gatepostlaw13.AuthNone', WHERE WHAT IT READS IS OF BULK AT MOST 1048576: true; the input reads as it did. -/
def authNoneUptoRow : OpenClaim := { program := "ytlcecabfmemfeaa", sum := "1f5be5197b9bdc43b5faff89ef05caa3fbe99fb6562b7851a338c280aa2d0bc7", func := "gatepost/gatepostlaw13.AuthNone", spec := "authNone", unfollowed := true, recurses := true, apart := false, narrowed := true }
def AuthNoneUptoSaid : Prop := authNoneUptoRow.holds Try.pinned (OpenSpec.upto authNoneSpec)

/-- 'gatepostlaw13.AuthMatches', WHERE WHAT IT READS IS OF BULK AT MOST 1048576: true; the input reads as it did. -/
def authMatchesUptoRow : OpenClaim := { program := "ytlcecabfmemfeaa", sum := "1f5be5197b9bdc43b5faff89ef05caa3fbe99fb6562b7851a338c280aa2d0bc7", func := "gatepost/gatepostlaw13.AuthMatches", spec := "authMatches", unfollowed := true, recurses := true, apart := false, narrowed := true }
def AuthMatchesUptoSaid : Prop := authMatchesUptoRow.holds Try.pinned (OpenSpec.upto authMatchesSpec)

/-- 'gatepostlaw13.AuthBlind', WHERE WHAT IT READS IS OF BULK AT MOST 1048576: true; the input reads as it did. -/
def authBlindUptoRow : OpenClaim := { program := "ytlcecabfmemfeaa", sum := "1f5be5197b9bdc43b5faff89ef05caa3fbe99fb6562b7851a338c280aa2d0bc7", func := "gatepost/gatepostlaw13.AuthBlind", spec := "authBlind", unfollowed := true, recurses := true, apart := false, narrowed := true }
def AuthBlindUptoSaid : Prop := authBlindUptoRow.holds Try.pinned (OpenSpec.upto authBlindSpec)

/-- 'gatepostlaw14.SplitWhole', WHERE WHAT IT READS IS OF BULK AT MOST 1048576: true; the input reads as it did. -/
def splitWholeUptoRow : OpenClaim := { program := "ytlcecabfmemfeaa", sum := "1f5be5197b9bdc43b5faff89ef05caa3fbe99fb6562b7851a338c280aa2d0bc7", func := "gatepost/gatepostlaw14.SplitWhole", spec := "splitWhole", unfollowed := true, recurses := true, apart := false, narrowed := true }
def SplitWholeUptoSaid : Prop := splitWholeUptoRow.holds Try.pinned (OpenSpec.upto splitWholeSpec)

/-- 'gatepostlaw14.SplitAlone', WHERE WHAT IT READS IS OF BULK AT MOST 1048576: true; the input reads as it did. -/
def splitAloneUptoRow : OpenClaim := { program := "ytlcecabfmemfeaa", sum := "1f5be5197b9bdc43b5faff89ef05caa3fbe99fb6562b7851a338c280aa2d0bc7", func := "gatepost/gatepostlaw14.SplitAlone", spec := "splitAlone", unfollowed := true, recurses := true, apart := false, narrowed := true }
def SplitAloneUptoSaid : Prop := splitAloneUptoRow.holds Try.pinned (OpenSpec.upto splitAloneSpec)

end Rows
end Go.Proofs.Ytlcecabfmemfeaa
