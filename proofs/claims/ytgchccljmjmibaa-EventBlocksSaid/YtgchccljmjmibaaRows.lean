/-
  No cell of these rows narrows 'for every input' (looked for: loops, veiled, ifaces, maps, wideKeys, modest, calm, conditions, laid).
  DERIVED. THE GIVEN ROWS OF THIS SEAT. 11 by the template 'for every input the law returns true; each argument reads behind the call as it read before'; 0 by the template 'total and deterministic' (their statements: YtgchccljmjmibaaTotals.lean).
  GIVEN WITH THE SEED: the statements are not yours to turn. If you find one false, say at which input.
  Laid BY PROGRAM, IN A SANDBOX (cutbox-rows.mjs): the forced cells as the released guide's own fill.sh prints them over the translation 27c2811c84990d1b… (all of the seat's roots in one cut). By AI agents, Wed Nov 11 2026. No macro, syntax, notation, axiom, sorry.
-/
import Derived.Test.YtgchccljmjmibaaChecked
import GoSem.Claim
import GoSem.ClaimJoined
import GoSem.ClaimMapViews
import Derived.JoinedTies
import Derived.KernelRfl
namespace Go.Proofs.Ytgchccljmjmibaa
/- THE CELL 'sum', in the pinned program and in every row, IS THE sha256 OF THE DUMP (.gsa) THAT YtgchccljmjmibaaProg.lean LOADS. Nothing in Lean hashes anything: it is a label: what it is worth is what the hold of that sum in a sandbox is worth. -/
noncomputable def Try.pinned : Pinned := { name := "ytgchccljmjmibaa", sum := "27c2811c84990d1b44c02c8309ce0f9bb7ca4fc0fe6064993a4034f9b066ccbc", checked := Try.checked }
namespace Rows
def none {H : Type} : Left H := { results := [], args := [] }

/-- 'roquetlaw11.EventSlates': WHATEVER THE INPUT: true; the input reads as it did. -/
def eventSlatesSpec : ChangeSpec := { name := "eventSlates", fn := fun _ => fun
  | [d1, d2, d3] => { results := [.lit (.bool true)], args := [d1, d2, d3] }
  | _ => none }
def eventSlatesRow : OpenClaim := { program := "ytgchccljmjmibaa", sum := "27c2811c84990d1b44c02c8309ce0f9bb7ca4fc0fe6064993a4034f9b066ccbc", func := "roquet/roquetlaw11.EventSlates", spec := "eventSlates", unfollowed := true, recurses := true, apart := false }
def EventSlatesSaid : Prop := eventSlatesRow.holds Try.pinned (OpenSpec.ofChange eventSlatesSpec)

/-- ITS FALSE NEIGHBOUR: 'it returns false'. Refute it at one input. -/
def eventSlatesWrong : ChangeSpec := { name := "eventSlates", fn := fun _ => fun
  | [d1, d2, d3] => { results := [.lit (.bool false)], args := [d1, d2, d3] }
  | _ => none }
def EventSlatesWrongFalsely : Prop := eventSlatesRow.holds Try.pinned (OpenSpec.ofChange eventSlatesWrong)

/-- 'roquetlaw11.EventClash': WHATEVER THE INPUT: true; the input reads as it did. -/
def eventClashSpec : ChangeSpec := { name := "eventClash", fn := fun _ => fun
  | [d1, d2, d3, d4] => { results := [.lit (.bool true)], args := [d1, d2, d3, d4] }
  | _ => none }
def eventClashRow : OpenClaim := { program := "ytgchccljmjmibaa", sum := "27c2811c84990d1b44c02c8309ce0f9bb7ca4fc0fe6064993a4034f9b066ccbc", func := "roquet/roquetlaw11.EventClash", spec := "eventClash", unfollowed := true, recurses := true, apart := false }
def EventClashSaid : Prop := eventClashRow.holds Try.pinned (OpenSpec.ofChange eventClashSpec)

/-- ITS FALSE NEIGHBOUR: 'it returns false'. Refute it at one input. -/
def eventClashWrong : ChangeSpec := { name := "eventClash", fn := fun _ => fun
  | [d1, d2, d3, d4] => { results := [.lit (.bool false)], args := [d1, d2, d3, d4] }
  | _ => none }
def EventClashWrongFalsely : Prop := eventClashRow.holds Try.pinned (OpenSpec.ofChange eventClashWrong)

/-- 'roquetlaw11.EventDry': WHATEVER THE INPUT: true; the input reads as it did. -/
def eventDrySpec : ChangeSpec := { name := "eventDry", fn := fun _ => fun
  | [d1, d2, d3, d4] => { results := [.lit (.bool true)], args := [d1, d2, d3, d4] }
  | _ => none }
def eventDryRow : OpenClaim := { program := "ytgchccljmjmibaa", sum := "27c2811c84990d1b44c02c8309ce0f9bb7ca4fc0fe6064993a4034f9b066ccbc", func := "roquet/roquetlaw11.EventDry", spec := "eventDry", unfollowed := true, recurses := true, apart := false }
def EventDrySaid : Prop := eventDryRow.holds Try.pinned (OpenSpec.ofChange eventDrySpec)

/-- ITS FALSE NEIGHBOUR: 'it returns false'. Refute it at one input. -/
def eventDryWrong : ChangeSpec := { name := "eventDry", fn := fun _ => fun
  | [d1, d2, d3, d4] => { results := [.lit (.bool false)], args := [d1, d2, d3, d4] }
  | _ => none }
def EventDryWrongFalsely : Prop := eventDryRow.holds Try.pinned (OpenSpec.ofChange eventDryWrong)

/-- 'roquetlaw11.EventRounds': WHATEVER THE INPUT: true; the input reads as it did. -/
def eventRoundsSpec : ChangeSpec := { name := "eventRounds", fn := fun _ => fun
  | [d] => { results := [.lit (.bool true)], args := [d] }
  | _ => none }
def eventRoundsRow : OpenClaim := { program := "ytgchccljmjmibaa", sum := "27c2811c84990d1b44c02c8309ce0f9bb7ca4fc0fe6064993a4034f9b066ccbc", func := "roquet/roquetlaw11.EventRounds", spec := "eventRounds", unfollowed := true, recurses := true, apart := false }
def EventRoundsSaid : Prop := eventRoundsRow.holds Try.pinned (OpenSpec.ofChange eventRoundsSpec)

/-- ITS FALSE NEIGHBOUR: 'it returns false'. Refute it at one input. -/
def eventRoundsWrong : ChangeSpec := { name := "eventRounds", fn := fun _ => fun
  | [d] => { results := [.lit (.bool false)], args := [d] }
  | _ => none }
def EventRoundsWrongFalsely : Prop := eventRoundsRow.holds Try.pinned (OpenSpec.ofChange eventRoundsWrong)

/-- 'roquetlaw11.EventFair': WHATEVER THE INPUT: true; the input reads as it did. -/
def eventFairSpec : ChangeSpec := { name := "eventFair", fn := fun _ => fun
  | [d1, d2, d3] => { results := [.lit (.bool true)], args := [d1, d2, d3] }
  | _ => none }
def eventFairRow : OpenClaim := { program := "ytgchccljmjmibaa", sum := "27c2811c84990d1b44c02c8309ce0f9bb7ca4fc0fe6064993a4034f9b066ccbc", func := "roquet/roquetlaw11.EventFair", spec := "eventFair", unfollowed := true, recurses := true, apart := false }
def EventFairSaid : Prop := eventFairRow.holds Try.pinned (OpenSpec.ofChange eventFairSpec)

/-- ITS FALSE NEIGHBOUR: 'it returns false'. Refute it at one input. -/
def eventFairWrong : ChangeSpec := { name := "eventFair", fn := fun _ => fun
  | [d1, d2, d3] => { results := [.lit (.bool false)], args := [d1, d2, d3] }
  | _ => none }
def EventFairWrongFalsely : Prop := eventFairRow.holds Try.pinned (OpenSpec.ofChange eventFairWrong)

/-- 'roquetlaw11.EventDraws': WHATEVER THE INPUT: true; the input reads as it did. -/
def eventDrawsSpec : ChangeSpec := { name := "eventDraws", fn := fun _ => fun
  | [d1, d2, d3, d4, d5, d6] => { results := [.lit (.bool true)], args := [d1, d2, d3, d4, d5, d6] }
  | _ => none }
def eventDrawsRow : OpenClaim := { program := "ytgchccljmjmibaa", sum := "27c2811c84990d1b44c02c8309ce0f9bb7ca4fc0fe6064993a4034f9b066ccbc", func := "roquet/roquetlaw11.EventDraws", spec := "eventDraws", unfollowed := true, recurses := true, apart := false }
def EventDrawsSaid : Prop := eventDrawsRow.holds Try.pinned (OpenSpec.ofChange eventDrawsSpec)

/-- ITS FALSE NEIGHBOUR: 'it returns false'. Refute it at one input. -/
def eventDrawsWrong : ChangeSpec := { name := "eventDraws", fn := fun _ => fun
  | [d1, d2, d3, d4, d5, d6] => { results := [.lit (.bool false)], args := [d1, d2, d3, d4, d5, d6] }
  | _ => none }
def EventDrawsWrongFalsely : Prop := eventDrawsRow.holds Try.pinned (OpenSpec.ofChange eventDrawsWrong)

/-- 'roquetlaw11.EventSheets': WHATEVER THE INPUT: true; the input reads as it did. -/
def eventSheetsSpec : ChangeSpec := { name := "eventSheets", fn := fun _ => fun
  | [d1, d2, d3] => { results := [.lit (.bool true)], args := [d1, d2, d3] }
  | _ => none }
def eventSheetsRow : OpenClaim := { program := "ytgchccljmjmibaa", sum := "27c2811c84990d1b44c02c8309ce0f9bb7ca4fc0fe6064993a4034f9b066ccbc", func := "roquet/roquetlaw11.EventSheets", spec := "eventSheets", unfollowed := true, recurses := true, apart := false }
def EventSheetsSaid : Prop := eventSheetsRow.holds Try.pinned (OpenSpec.ofChange eventSheetsSpec)

/-- ITS FALSE NEIGHBOUR: 'it returns false'. Refute it at one input. -/
def eventSheetsWrong : ChangeSpec := { name := "eventSheets", fn := fun _ => fun
  | [d1, d2, d3] => { results := [.lit (.bool false)], args := [d1, d2, d3] }
  | _ => none }
def EventSheetsWrongFalsely : Prop := eventSheetsRow.holds Try.pinned (OpenSpec.ofChange eventSheetsWrong)

/-- 'roquetlaw11.EventForward': WHATEVER THE INPUT: true; the input reads as it did. -/
def eventForwardSpec : ChangeSpec := { name := "eventForward", fn := fun _ => fun
  | [d1, d2, d3] => { results := [.lit (.bool true)], args := [d1, d2, d3] }
  | _ => none }
def eventForwardRow : OpenClaim := { program := "ytgchccljmjmibaa", sum := "27c2811c84990d1b44c02c8309ce0f9bb7ca4fc0fe6064993a4034f9b066ccbc", func := "roquet/roquetlaw11.EventForward", spec := "eventForward", unfollowed := true, recurses := true, apart := false }
def EventForwardSaid : Prop := eventForwardRow.holds Try.pinned (OpenSpec.ofChange eventForwardSpec)

/-- ITS FALSE NEIGHBOUR: 'it returns false'. Refute it at one input. -/
def eventForwardWrong : ChangeSpec := { name := "eventForward", fn := fun _ => fun
  | [d1, d2, d3] => { results := [.lit (.bool false)], args := [d1, d2, d3] }
  | _ => none }
def EventForwardWrongFalsely : Prop := eventForwardRow.holds Try.pinned (OpenSpec.ofChange eventForwardWrong)

/-- 'roquetlaw11.EventTables': WHATEVER THE INPUT: true; the input reads as it did. -/
def eventTablesSpec : ChangeSpec := { name := "eventTables", fn := fun _ => fun
  | [d1, d2] => { results := [.lit (.bool true)], args := [d1, d2] }
  | _ => none }
def eventTablesRow : OpenClaim := { program := "ytgchccljmjmibaa", sum := "27c2811c84990d1b44c02c8309ce0f9bb7ca4fc0fe6064993a4034f9b066ccbc", func := "roquet/roquetlaw11.EventTables", spec := "eventTables", unfollowed := true, recurses := true, apart := false }
def EventTablesSaid : Prop := eventTablesRow.holds Try.pinned (OpenSpec.ofChange eventTablesSpec)

/-- ITS FALSE NEIGHBOUR: 'it returns false'. Refute it at one input. -/
def eventTablesWrong : ChangeSpec := { name := "eventTables", fn := fun _ => fun
  | [d1, d2] => { results := [.lit (.bool false)], args := [d1, d2] }
  | _ => none }
def EventTablesWrongFalsely : Prop := eventTablesRow.holds Try.pinned (OpenSpec.ofChange eventTablesWrong)

/-- 'roquetlaw11.EventBlocks': WHATEVER THE INPUT: true; the input reads as it did. -/
def eventBlocksSpec : ChangeSpec := { name := "eventBlocks", fn := fun _ => fun
  | [d1, d2, d3, d4] => { results := [.lit (.bool true)], args := [d1, d2, d3, d4] }
  | _ => none }
def eventBlocksRow : OpenClaim := { program := "ytgchccljmjmibaa", sum := "27c2811c84990d1b44c02c8309ce0f9bb7ca4fc0fe6064993a4034f9b066ccbc", func := "roquet/roquetlaw11.EventBlocks", spec := "eventBlocks", unfollowed := true, recurses := true, apart := false }
def EventBlocksSaid : Prop := eventBlocksRow.holds Try.pinned (OpenSpec.ofChange eventBlocksSpec)

/-- ITS FALSE NEIGHBOUR: 'it returns false'. Refute it at one input. -/
def eventBlocksWrong : ChangeSpec := { name := "eventBlocks", fn := fun _ => fun
  | [d1, d2, d3, d4] => { results := [.lit (.bool false)], args := [d1, d2, d3, d4] }
  | _ => none }
def EventBlocksWrongFalsely : Prop := eventBlocksRow.holds Try.pinned (OpenSpec.ofChange eventBlocksWrong)

/-- 'roquetlaw11.EventOrder': WHATEVER THE INPUT: true; the input reads as it did. -/
def eventOrderSpec : ChangeSpec := { name := "eventOrder", fn := fun _ => fun
  | [d1, d2, d3, d4, d5, d6] => { results := [.lit (.bool true)], args := [d1, d2, d3, d4, d5, d6] }
  | _ => none }
def eventOrderRow : OpenClaim := { program := "ytgchccljmjmibaa", sum := "27c2811c84990d1b44c02c8309ce0f9bb7ca4fc0fe6064993a4034f9b066ccbc", func := "roquet/roquetlaw11.EventOrder", spec := "eventOrder", unfollowed := true, recurses := true, apart := false }
def EventOrderSaid : Prop := eventOrderRow.holds Try.pinned (OpenSpec.ofChange eventOrderSpec)

/-- ITS FALSE NEIGHBOUR: 'it returns false'. Refute it at one input. -/
def eventOrderWrong : ChangeSpec := { name := "eventOrder", fn := fun _ => fun
  | [d1, d2, d3, d4, d5, d6] => { results := [.lit (.bool false)], args := [d1, d2, d3, d4, d5, d6] }
  | _ => none }
def EventOrderWrongFalsely : Prop := eventOrderRow.holds Try.pinned (OpenSpec.ofChange eventOrderWrong)

/- THE SECOND FORM. 'bulk': how many values and letters a reading holds, each counted each time it is reached (what is shared counts as often as it is met; a slice's spare places count too). A statement '..UptoSaid' is the law's where the arguments, and the package variables that the reading takes, are together of bulk at most 1048576: NARROWER than '..Said'. Prove '..Said' where nothing that the law and all that it calls make is longer than what came in: it says more and counts as full. Else prove '..UptoSaid'. A law counts once. -/
mutual
def uptoBulk {H : Type} : DataW H → Nat
  | .lit (.string bytes) => bytes.length + 1
  | .lit _ => 1
  | .nil => 1
  | .ptr d => uptoBulk d + 1
  | .slice elems spare => uptoBulkAll elems + uptoBulkAll spare + 1
  | .agg parts => uptoBulkAll parts + 1
  | .iface _ d => uptoBulk d + 1
  | .map entries => uptoBulkEntries entries + 1
  | .held _ => 1
def uptoBulkAll {H : Type} : List (DataW H) → Nat
  | [] => 0
  | d :: r => uptoBulk d + uptoBulkAll r
def uptoBulkEntries {H : Type} : List (Lit × DataW H) → Nat
  | [] => 0
  | x :: r => uptoBulkEntry x + uptoBulkEntries r
def uptoBulkEntry {H : Type} : Lit × DataW H → Nat
  | (.string bytes, d) => bytes.length + uptoBulk d + 1
  | (_, d) => uptoBulk d + 1
 end
def uptoSmall : (H : Type) → List (DataW H) → Bool := fun _ ds => decide (uptoBulkAll ds ≤ 1048576)
def OpenSpec.upto (s : _root_.Go.ChangeSpec) : _root_.Go.OpenSpec := { _root_.Go.OpenSpec.ofChange s with cond := some uptoSmall }

/-- 'roquetlaw11.EventSlates', WHERE WHAT IT READS IS OF BULK AT MOST 1048576: true; the input reads as it did. -/
def eventSlatesUptoRow : OpenClaim := { program := "ytgchccljmjmibaa", sum := "27c2811c84990d1b44c02c8309ce0f9bb7ca4fc0fe6064993a4034f9b066ccbc", func := "roquet/roquetlaw11.EventSlates", spec := "eventSlates", unfollowed := true, recurses := true, apart := false, narrowed := true }
def EventSlatesUptoSaid : Prop := eventSlatesUptoRow.holds Try.pinned (OpenSpec.upto eventSlatesSpec)

/-- 'roquetlaw11.EventClash', WHERE WHAT IT READS IS OF BULK AT MOST 1048576: true; the input reads as it did. -/
def eventClashUptoRow : OpenClaim := { program := "ytgchccljmjmibaa", sum := "27c2811c84990d1b44c02c8309ce0f9bb7ca4fc0fe6064993a4034f9b066ccbc", func := "roquet/roquetlaw11.EventClash", spec := "eventClash", unfollowed := true, recurses := true, apart := false, narrowed := true }
def EventClashUptoSaid : Prop := eventClashUptoRow.holds Try.pinned (OpenSpec.upto eventClashSpec)

/-- 'roquetlaw11.EventDry', WHERE WHAT IT READS IS OF BULK AT MOST 1048576: true; the input reads as it did. -/
def eventDryUptoRow : OpenClaim := { program := "ytgchccljmjmibaa", sum := "27c2811c84990d1b44c02c8309ce0f9bb7ca4fc0fe6064993a4034f9b066ccbc", func := "roquet/roquetlaw11.EventDry", spec := "eventDry", unfollowed := true, recurses := true, apart := false, narrowed := true }
def EventDryUptoSaid : Prop := eventDryUptoRow.holds Try.pinned (OpenSpec.upto eventDrySpec)

/-- 'roquetlaw11.EventRounds', WHERE WHAT IT READS IS OF BULK AT MOST 1048576: true; the input reads as it did. -/
def eventRoundsUptoRow : OpenClaim := { program := "ytgchccljmjmibaa", sum := "27c2811c84990d1b44c02c8309ce0f9bb7ca4fc0fe6064993a4034f9b066ccbc", func := "roquet/roquetlaw11.EventRounds", spec := "eventRounds", unfollowed := true, recurses := true, apart := false, narrowed := true }
def EventRoundsUptoSaid : Prop := eventRoundsUptoRow.holds Try.pinned (OpenSpec.upto eventRoundsSpec)

/-- 'roquetlaw11.EventFair', WHERE WHAT IT READS IS OF BULK AT MOST 1048576: true; the input reads as it did. -/
def eventFairUptoRow : OpenClaim := { program := "ytgchccljmjmibaa", sum := "27c2811c84990d1b44c02c8309ce0f9bb7ca4fc0fe6064993a4034f9b066ccbc", func := "roquet/roquetlaw11.EventFair", spec := "eventFair", unfollowed := true, recurses := true, apart := false, narrowed := true }
def EventFairUptoSaid : Prop := eventFairUptoRow.holds Try.pinned (OpenSpec.upto eventFairSpec)

/-- 'roquetlaw11.EventDraws', WHERE WHAT IT READS IS OF BULK AT MOST 1048576: true; the input reads as it did. -/
def eventDrawsUptoRow : OpenClaim := { program := "ytgchccljmjmibaa", sum := "27c2811c84990d1b44c02c8309ce0f9bb7ca4fc0fe6064993a4034f9b066ccbc", func := "roquet/roquetlaw11.EventDraws", spec := "eventDraws", unfollowed := true, recurses := true, apart := false, narrowed := true }
def EventDrawsUptoSaid : Prop := eventDrawsUptoRow.holds Try.pinned (OpenSpec.upto eventDrawsSpec)

/-- 'roquetlaw11.EventSheets', WHERE WHAT IT READS IS OF BULK AT MOST 1048576: true; the input reads as it did. -/
def eventSheetsUptoRow : OpenClaim := { program := "ytgchccljmjmibaa", sum := "27c2811c84990d1b44c02c8309ce0f9bb7ca4fc0fe6064993a4034f9b066ccbc", func := "roquet/roquetlaw11.EventSheets", spec := "eventSheets", unfollowed := true, recurses := true, apart := false, narrowed := true }
def EventSheetsUptoSaid : Prop := eventSheetsUptoRow.holds Try.pinned (OpenSpec.upto eventSheetsSpec)

/-- 'roquetlaw11.EventForward', WHERE WHAT IT READS IS OF BULK AT MOST 1048576: true; the input reads as it did. -/
def eventForwardUptoRow : OpenClaim := { program := "ytgchccljmjmibaa", sum := "27c2811c84990d1b44c02c8309ce0f9bb7ca4fc0fe6064993a4034f9b066ccbc", func := "roquet/roquetlaw11.EventForward", spec := "eventForward", unfollowed := true, recurses := true, apart := false, narrowed := true }
def EventForwardUptoSaid : Prop := eventForwardUptoRow.holds Try.pinned (OpenSpec.upto eventForwardSpec)

/-- 'roquetlaw11.EventTables', WHERE WHAT IT READS IS OF BULK AT MOST 1048576: true; the input reads as it did. -/
def eventTablesUptoRow : OpenClaim := { program := "ytgchccljmjmibaa", sum := "27c2811c84990d1b44c02c8309ce0f9bb7ca4fc0fe6064993a4034f9b066ccbc", func := "roquet/roquetlaw11.EventTables", spec := "eventTables", unfollowed := true, recurses := true, apart := false, narrowed := true }
def EventTablesUptoSaid : Prop := eventTablesUptoRow.holds Try.pinned (OpenSpec.upto eventTablesSpec)

/-- 'roquetlaw11.EventBlocks', WHERE WHAT IT READS IS OF BULK AT MOST 1048576: true; the input reads as it did. -/
def eventBlocksUptoRow : OpenClaim := { program := "ytgchccljmjmibaa", sum := "27c2811c84990d1b44c02c8309ce0f9bb7ca4fc0fe6064993a4034f9b066ccbc", func := "roquet/roquetlaw11.EventBlocks", spec := "eventBlocks", unfollowed := true, recurses := true, apart := false, narrowed := true }
def EventBlocksUptoSaid : Prop := eventBlocksUptoRow.holds Try.pinned (OpenSpec.upto eventBlocksSpec)

/-- 'roquetlaw11.EventOrder', WHERE WHAT IT READS IS OF BULK AT MOST 1048576: true; the input reads as it did. -/
def eventOrderUptoRow : OpenClaim := { program := "ytgchccljmjmibaa", sum := "27c2811c84990d1b44c02c8309ce0f9bb7ca4fc0fe6064993a4034f9b066ccbc", func := "roquet/roquetlaw11.EventOrder", spec := "eventOrder", unfollowed := true, recurses := true, apart := false, narrowed := true }
def EventOrderUptoSaid : Prop := eventOrderUptoRow.holds Try.pinned (OpenSpec.upto eventOrderSpec)

end Rows
end Go.Proofs.Ytgchccljmjmibaa
