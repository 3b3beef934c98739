/-
  No cell of these rows narrows 'for every input' (looked for: loops, veiled, ifaces, maps, wideKeys, modest, calm, conditions, laid).
  DERIVED. THE GIVEN ROWS OF THIS SEAT. 4 by the template 'for every input the law returns true; each argument reads behind the call as it read before'; 0 by the template 'total and deterministic' (their statements: YtialgmhhkbdegaaTotals.lean).
  GIVEN WITH THE SEED: the statements are not yours to turn. If you find one false, say at which input.
  Laid BY PROGRAM, IN A SANDBOX (cutbox-rows.mjs): the forced cells as the released guide's own fill.sh prints them over the translation c73d99edef97feff… (all of the seat's roots in one cut). By AI agents, Wed Nov 11 2026. No macro, syntax, notation, axiom, sorry.
-/
import Derived.Test.YtialgmhhkbdegaaChecked
import GoSem.Claim
import GoSem.ClaimJoined
import GoSem.ClaimMapViews
import Derived.JoinedTies
import Derived.KernelRfl
namespace Go.Proofs.Ytialgmhhkbdegaa
/- THE CELL 'sum', in the pinned program and in every row, IS THE sha256 OF THE DUMP (.gsa) THAT YtialgmhhkbdegaaProg.lean LOADS. Nothing in Lean hashes anything: it is a label: what it is worth is what the hold of that sum in a sandbox is worth. -/
noncomputable def Try.pinned : Pinned := { name := "ytialgmhhkbdegaa", sum := "c73d99edef97feffa124b183c1f02d1a11404b3ee52e2fce718006b290f2bbbd", checked := Try.checked }
namespace Rows
def none {H : Type} : Left H := { results := [], args := [] }

/-- 'roquettop.TopStraight': WHATEVER THE INPUT: true; the input reads as it did. -/
def topStraightSpec : ChangeSpec := { name := "topStraight", fn := fun _ => fun
  | [d1, d2, d3, d4] => { results := [.lit (.bool true)], args := [d1, d2, d3, d4] }
  | _ => none }
def topStraightRow : OpenClaim := { program := "ytialgmhhkbdegaa", sum := "c73d99edef97feffa124b183c1f02d1a11404b3ee52e2fce718006b290f2bbbd", func := "roquet/roquettop.TopStraight", spec := "topStraight", unfollowed := true, recurses := true, apart := false }
def TopStraightSaid : Prop := topStraightRow.holds Try.pinned (OpenSpec.ofChange topStraightSpec)

/-- ITS FALSE NEIGHBOUR: 'it returns false'. Refute it at one input. -/
def topStraightWrong : ChangeSpec := { name := "topStraight", fn := fun _ => fun
  | [d1, d2, d3, d4] => { results := [.lit (.bool false)], args := [d1, d2, d3, d4] }
  | _ => none }
def TopStraightWrongFalsely : Prop := topStraightRow.holds Try.pinned (OpenSpec.ofChange topStraightWrong)

/-- 'roquettop.TopInWay': WHATEVER THE INPUT: true; the input reads as it did. -/
def topInWaySpec : ChangeSpec := { name := "topInWay", fn := fun _ => fun
  | [d1, d2, d3, d4] => { results := [.lit (.bool true)], args := [d1, d2, d3, d4] }
  | _ => none }
def topInWayRow : OpenClaim := { program := "ytialgmhhkbdegaa", sum := "c73d99edef97feffa124b183c1f02d1a11404b3ee52e2fce718006b290f2bbbd", func := "roquet/roquettop.TopInWay", spec := "topInWay", unfollowed := true, recurses := true, apart := false }
def TopInWaySaid : Prop := topInWayRow.holds Try.pinned (OpenSpec.ofChange topInWaySpec)

/-- ITS FALSE NEIGHBOUR: 'it returns false'. Refute it at one input. -/
def topInWayWrong : ChangeSpec := { name := "topInWay", fn := fun _ => fun
  | [d1, d2, d3, d4] => { results := [.lit (.bool false)], args := [d1, d2, d3, d4] }
  | _ => none }
def TopInWayWrongFalsely : Prop := topInWayRow.holds Try.pinned (OpenSpec.ofChange topInWayWrong)

/-- 'roquettop.TopMeeting': WHATEVER THE INPUT: true; the input reads as it did. -/
def topMeetingSpec : ChangeSpec := { name := "topMeeting", fn := fun _ => fun
  | [d1, d2, d3, d4, d5, d6, d7] => { results := [.lit (.bool true)], args := [d1, d2, d3, d4, d5, d6, d7] }
  | _ => none }
def topMeetingRow : OpenClaim := { program := "ytialgmhhkbdegaa", sum := "c73d99edef97feffa124b183c1f02d1a11404b3ee52e2fce718006b290f2bbbd", func := "roquet/roquettop.TopMeeting", spec := "topMeeting", unfollowed := true, recurses := true, apart := false }
def TopMeetingSaid : Prop := topMeetingRow.holds Try.pinned (OpenSpec.ofChange topMeetingSpec)

/-- ITS FALSE NEIGHBOUR: 'it returns false'. Refute it at one input. -/
def topMeetingWrong : ChangeSpec := { name := "topMeeting", fn := fun _ => fun
  | [d1, d2, d3, d4, d5, d6, d7] => { results := [.lit (.bool false)], args := [d1, d2, d3, d4, d5, d6, d7] }
  | _ => none }
def TopMeetingWrongFalsely : Prop := topMeetingRow.holds Try.pinned (OpenSpec.ofChange topMeetingWrong)

/-- 'roquettop.TopTouched': WHATEVER THE INPUT: true; the input reads as it did. -/
def topTouchedSpec : ChangeSpec := { name := "topTouched", fn := fun _ => fun
  | [d1, d2, d3] => { results := [.lit (.bool true)], args := [d1, d2, d3] }
  | _ => none }
def topTouchedRow : OpenClaim := { program := "ytialgmhhkbdegaa", sum := "c73d99edef97feffa124b183c1f02d1a11404b3ee52e2fce718006b290f2bbbd", func := "roquet/roquettop.TopTouched", spec := "topTouched", unfollowed := true, recurses := true, apart := false }
def TopTouchedSaid : Prop := topTouchedRow.holds Try.pinned (OpenSpec.ofChange topTouchedSpec)

/-- ITS FALSE NEIGHBOUR: 'it returns false'. Refute it at one input. -/
def topTouchedWrong : ChangeSpec := { name := "topTouched", fn := fun _ => fun
  | [d1, d2, d3] => { results := [.lit (.bool false)], args := [d1, d2, d3] }
  | _ => none }
def TopTouchedWrongFalsely : Prop := topTouchedRow.holds Try.pinned (OpenSpec.ofChange topTouchedWrong)

/- THE SECOND FORM. 'bulk': how many values and letters a reading holds, each counted each time it is reached (what is shared counts as often as it is met; a slice's spare places count too). A statement '..UptoSaid' is the law's where the arguments, and the package variables that the reading takes, are together of bulk at most 1048576: NARROWER than '..Said'. Prove '..Said' where nothing that the law and all that it calls make is longer than what came in: it says more and counts as full. Else prove '..UptoSaid'. A law counts once. -/
mutual
def uptoBulk {H : Type} : DataW H → Nat
  | .lit (.string bytes) => bytes.length + 1
  | .lit _ => 1
  | .nil => 1
  | .ptr d => uptoBulk d + 1
  | .slice elems spare => uptoBulkAll elems + uptoBulkAll spare + 1
  | .agg parts => uptoBulkAll parts + 1
  | .iface _ d => uptoBulk d + 1
  | .map entries => uptoBulkEntries entries + 1
  | .held _ => 1
def uptoBulkAll {H : Type} : List (DataW H) → Nat
  | [] => 0
  | d :: r => uptoBulk d + uptoBulkAll r
def uptoBulkEntries {H : Type} : List (Lit × DataW H) → Nat
  | [] => 0
  | x :: r => uptoBulkEntry x + uptoBulkEntries r
def uptoBulkEntry {H : Type} : Lit × DataW H → Nat
  | (.string bytes, d) => bytes.length + uptoBulk d + 1
  | (_, d) => uptoBulk d + 1
 end
def uptoSmall : (H : Type) → List (DataW H) → Bool := fun _ ds => decide (uptoBulkAll ds ≤ 1048576)
def OpenSpec.upto (s : _root_.Go.ChangeSpec) : _root_.Go.OpenSpec := { _root_.Go.OpenSpec.ofChange s with cond := some uptoSmall }

/-- 'roquettop.TopStraight', WHERE WHAT IT READS IS OF BULK AT MOST 1048576: true; the input reads as it did. -/
def topStraightUptoRow : OpenClaim := { program := "ytialgmhhkbdegaa", sum := "c73d99edef97feffa124b183c1f02d1a11404b3ee52e2fce718006b290f2bbbd", func := "roquet/roquettop.TopStraight", spec := "topStraight", unfollowed := true, recurses := true, apart := false, narrowed := true }
def TopStraightUptoSaid : Prop := topStraightUptoRow.holds Try.pinned (OpenSpec.upto topStraightSpec)

/-- 'roquettop.TopInWay', WHERE WHAT IT READS IS OF BULK AT MOST 1048576: true; the input reads as it did. -/
def topInWayUptoRow : OpenClaim := { program := "ytialgmhhkbdegaa", sum := "c73d99edef97feffa124b183c1f02d1a11404b3ee52e2fce718006b290f2bbbd", func := "roquet/roquettop.TopInWay", spec := "topInWay", unfollowed := true, recurses := true, apart := false, narrowed := true }
def TopInWayUptoSaid : Prop := topInWayUptoRow.holds Try.pinned (OpenSpec.upto topInWaySpec)

/-- 'roquettop.TopMeeting', WHERE WHAT IT READS IS OF BULK AT MOST 1048576: true; the input reads as it did. -/
def topMeetingUptoRow : OpenClaim := { program := "ytialgmhhkbdegaa", sum := "c73d99edef97feffa124b183c1f02d1a11404b3ee52e2fce718006b290f2bbbd", func := "roquet/roquettop.TopMeeting", spec := "topMeeting", unfollowed := true, recurses := true, apart := false, narrowed := true }
def TopMeetingUptoSaid : Prop := topMeetingUptoRow.holds Try.pinned (OpenSpec.upto topMeetingSpec)

/-- 'roquettop.TopTouched', WHERE WHAT IT READS IS OF BULK AT MOST 1048576: true; the input reads as it did. -/
def topTouchedUptoRow : OpenClaim := { program := "ytialgmhhkbdegaa", sum := "c73d99edef97feffa124b183c1f02d1a11404b3ee52e2fce718006b290f2bbbd", func := "roquet/roquettop.TopTouched", spec := "topTouched", unfollowed := true, recurses := true, apart := false, narrowed := true }
def TopTouchedUptoSaid : Prop := topTouchedUptoRow.holds Try.pinned (OpenSpec.upto topTouchedSpec)

end Rows
end Go.Proofs.Ytialgmhhkbdegaa
