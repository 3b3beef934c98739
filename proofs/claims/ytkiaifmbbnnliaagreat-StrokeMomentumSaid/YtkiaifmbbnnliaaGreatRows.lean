/-
  No cell of these rows narrows 'for every input' (looked for: loops, veiled, ifaces, maps, wideKeys, modest, calm, conditions, laid).
  DERIVED. THE GIVEN ROWS OF THIS SEAT. 11 by the template 'for every input the law returns true; each argument reads behind the call as it read before'; 0 by the template 'total and deterministic' (their statements: YtkiaifmbbnnliaaGreatTotals.lean).
  GIVEN WITH THE SEED: the statements are not yours to turn. If you find one false, say at which input.
  Laid BY PROGRAM, IN A SANDBOX (cutbox-rows.mjs): the forced cells as the released guide's own fill.sh prints them over the translation ac7bbf8db5286813… (all of the seat's roots in one cut). By AI agents, Wed Nov 11 2026. No macro, syntax, notation, axiom, sorry.
-/
import Derived.Test.YtkiaifmbbnnliaaGreatChecked
import GoSem.Claim
import GoSem.ClaimJoined
import GoSem.ClaimMapViews
import Derived.JoinedTies
import Derived.KernelRfl
namespace Go.Proofs.YtkiaifmbbnnliaaGreat
/- THE CELL 'sum', in the pinned program and in every row, IS THE sha256 OF THE DUMP (.gsa) THAT YtkiaifmbbnnliaaGreatProg.lean LOADS. Nothing in Lean hashes anything: it is a label: what it is worth is what the hold of that sum in a sandbox is worth. -/
noncomputable def Tryz.pinned : Pinned := { name := "ytkiaifmbbnnliaagreat", sum := "ac7bbf8db5286813d639f22da9f3218bcca522c7dce86a3e93f8e73ab98b6129", checked := Tryz.checked }
namespace Rows
def none {H : Type} : Left H := { results := [], args := [] }

/-- 'roquetlaw04.StrokeStrikes': WHATEVER THE INPUT: true; the input reads as it did. -/
def strokeStrikesSpec : ChangeSpec := { name := "strokeStrikes", fn := fun _ => fun
  | [d1, d2, d3] => { results := [.lit (.bool true)], args := [d1, d2, d3] }
  | _ => none }
def strokeStrikesRow : OpenClaim := { program := "ytkiaifmbbnnliaagreat", sum := "ac7bbf8db5286813d639f22da9f3218bcca522c7dce86a3e93f8e73ab98b6129", func := "roquet/roquetlaw04.StrokeStrikes", spec := "strokeStrikes", unfollowed := true, recurses := true, apart := false }
def StrokeStrikesSaid : Prop := strokeStrikesRow.holds Tryz.pinned (OpenSpec.ofChange strokeStrikesSpec)

/-- ITS FALSE NEIGHBOUR: 'it returns false'. Refute it at one input. -/
def strokeStrikesWrong : ChangeSpec := { name := "strokeStrikes", fn := fun _ => fun
  | [d1, d2, d3] => { results := [.lit (.bool false)], args := [d1, d2, d3] }
  | _ => none }
def StrokeStrikesWrongFalsely : Prop := strokeStrikesRow.holds Tryz.pinned (OpenSpec.ofChange strokeStrikesWrong)

/-- 'roquetlaw04.StrokeTicks': WHATEVER THE INPUT: true; the input reads as it did. -/
def strokeTicksSpec : ChangeSpec := { name := "strokeTicks", fn := fun _ => fun
  | [d1, d2] => { results := [.lit (.bool true)], args := [d1, d2] }
  | _ => none }
def strokeTicksRow : OpenClaim := { program := "ytkiaifmbbnnliaagreat", sum := "ac7bbf8db5286813d639f22da9f3218bcca522c7dce86a3e93f8e73ab98b6129", func := "roquet/roquetlaw04.StrokeTicks", spec := "strokeTicks", unfollowed := true, recurses := true, apart := false }
def StrokeTicksSaid : Prop := strokeTicksRow.holds Tryz.pinned (OpenSpec.ofChange strokeTicksSpec)

/-- ITS FALSE NEIGHBOUR: 'it returns false'. Refute it at one input. -/
def strokeTicksWrong : ChangeSpec := { name := "strokeTicks", fn := fun _ => fun
  | [d1, d2] => { results := [.lit (.bool false)], args := [d1, d2] }
  | _ => none }
def StrokeTicksWrongFalsely : Prop := strokeTicksRow.holds Tryz.pinned (OpenSpec.ofChange strokeTicksWrong)

/-- 'roquetlaw04.StrokeMomentum': WHATEVER THE INPUT: true; the input reads as it did. -/
def strokeMomentumSpec : ChangeSpec := { name := "strokeMomentum", fn := fun _ => fun
  | [d1, d2, d3] => { results := [.lit (.bool true)], args := [d1, d2, d3] }
  | _ => none }
def strokeMomentumRow : OpenClaim := { program := "ytkiaifmbbnnliaagreat", sum := "ac7bbf8db5286813d639f22da9f3218bcca522c7dce86a3e93f8e73ab98b6129", func := "roquet/roquetlaw04.StrokeMomentum", spec := "strokeMomentum", unfollowed := true, recurses := true, apart := false }
def StrokeMomentumSaid : Prop := strokeMomentumRow.holds Tryz.pinned (OpenSpec.ofChange strokeMomentumSpec)

/-- ITS FALSE NEIGHBOUR: 'it returns false'. Refute it at one input. -/
def strokeMomentumWrong : ChangeSpec := { name := "strokeMomentum", fn := fun _ => fun
  | [d1, d2, d3] => { results := [.lit (.bool false)], args := [d1, d2, d3] }
  | _ => none }
def StrokeMomentumWrongFalsely : Prop := strokeMomentumRow.holds Tryz.pinned (OpenSpec.ofChange strokeMomentumWrong)

/-- 'roquetlaw04.StrokeGrounds': WHATEVER THE INPUT: true; the input reads as it did. -/
def strokeGroundsSpec : ChangeSpec := { name := "strokeGrounds", fn := fun _ => fun
  | [d1, d2, d3] => { results := [.lit (.bool true)], args := [d1, d2, d3] }
  | _ => none }
def strokeGroundsRow : OpenClaim := { program := "ytkiaifmbbnnliaagreat", sum := "ac7bbf8db5286813d639f22da9f3218bcca522c7dce86a3e93f8e73ab98b6129", func := "roquet/roquetlaw04.StrokeGrounds", spec := "strokeGrounds", unfollowed := true, recurses := true, apart := false }
def StrokeGroundsSaid : Prop := strokeGroundsRow.holds Tryz.pinned (OpenSpec.ofChange strokeGroundsSpec)

/-- ITS FALSE NEIGHBOUR: 'it returns false'. Refute it at one input. -/
def strokeGroundsWrong : ChangeSpec := { name := "strokeGrounds", fn := fun _ => fun
  | [d1, d2, d3] => { results := [.lit (.bool false)], args := [d1, d2, d3] }
  | _ => none }
def StrokeGroundsWrongFalsely : Prop := strokeGroundsRow.holds Tryz.pinned (OpenSpec.ofChange strokeGroundsWrong)

/-- 'roquetlaw04.StrokeStill': WHATEVER THE INPUT: true; the input reads as it did. -/
def strokeStillSpec : ChangeSpec := { name := "strokeStill", fn := fun _ => fun
  | [d1, d2, d3] => { results := [.lit (.bool true)], args := [d1, d2, d3] }
  | _ => none }
def strokeStillRow : OpenClaim := { program := "ytkiaifmbbnnliaagreat", sum := "ac7bbf8db5286813d639f22da9f3218bcca522c7dce86a3e93f8e73ab98b6129", func := "roquet/roquetlaw04.StrokeStill", spec := "strokeStill", unfollowed := true, recurses := true, apart := false }
def StrokeStillSaid : Prop := strokeStillRow.holds Tryz.pinned (OpenSpec.ofChange strokeStillSpec)

/-- ITS FALSE NEIGHBOUR: 'it returns false'. Refute it at one input. -/
def strokeStillWrong : ChangeSpec := { name := "strokeStill", fn := fun _ => fun
  | [d1, d2, d3] => { results := [.lit (.bool false)], args := [d1, d2, d3] }
  | _ => none }
def StrokeStillWrongFalsely : Prop := strokeStillRow.holds Tryz.pinned (OpenSpec.ofChange strokeStillWrong)

/-- 'roquetlaw04.StrokeKnocks': WHATEVER THE INPUT: true; the input reads as it did. -/
def strokeKnocksSpec : ChangeSpec := { name := "strokeKnocks", fn := fun _ => fun
  | [d1, d2, d3, d4] => { results := [.lit (.bool true)], args := [d1, d2, d3, d4] }
  | _ => none }
def strokeKnocksRow : OpenClaim := { program := "ytkiaifmbbnnliaagreat", sum := "ac7bbf8db5286813d639f22da9f3218bcca522c7dce86a3e93f8e73ab98b6129", func := "roquet/roquetlaw04.StrokeKnocks", spec := "strokeKnocks", unfollowed := true, recurses := true, apart := false }
def StrokeKnocksSaid : Prop := strokeKnocksRow.holds Tryz.pinned (OpenSpec.ofChange strokeKnocksSpec)

/-- ITS FALSE NEIGHBOUR: 'it returns false'. Refute it at one input. -/
def strokeKnocksWrong : ChangeSpec := { name := "strokeKnocks", fn := fun _ => fun
  | [d1, d2, d3, d4] => { results := [.lit (.bool false)], args := [d1, d2, d3, d4] }
  | _ => none }
def StrokeKnocksWrongFalsely : Prop := strokeKnocksRow.holds Tryz.pinned (OpenSpec.ofChange strokeKnocksWrong)

/-- 'roquetlaw04.StrokePlays': WHATEVER THE INPUT: true; the input reads as it did. -/
def strokePlaysSpec : ChangeSpec := { name := "strokePlays", fn := fun _ => fun
  | [d1, d2, d3, d4, d5] => { results := [.lit (.bool true)], args := [d1, d2, d3, d4, d5] }
  | _ => none }
def strokePlaysRow : OpenClaim := { program := "ytkiaifmbbnnliaagreat", sum := "ac7bbf8db5286813d639f22da9f3218bcca522c7dce86a3e93f8e73ab98b6129", func := "roquet/roquetlaw04.StrokePlays", spec := "strokePlays", unfollowed := true, recurses := true, apart := false }
def StrokePlaysSaid : Prop := strokePlaysRow.holds Tryz.pinned (OpenSpec.ofChange strokePlaysSpec)

/-- ITS FALSE NEIGHBOUR: 'it returns false'. Refute it at one input. -/
def strokePlaysWrong : ChangeSpec := { name := "strokePlays", fn := fun _ => fun
  | [d1, d2, d3, d4, d5] => { results := [.lit (.bool false)], args := [d1, d2, d3, d4, d5] }
  | _ => none }
def StrokePlaysWrongFalsely : Prop := strokePlaysRow.holds Tryz.pinned (OpenSpec.ofChange strokePlaysWrong)

/-- 'roquetlaw04.StrokeAgain': WHATEVER THE INPUT: true; the input reads as it did. -/
def strokeAgainSpec : ChangeSpec := { name := "strokeAgain", fn := fun _ => fun
  | [d1, d2, d3, d4, d5, d6] => { results := [.lit (.bool true)], args := [d1, d2, d3, d4, d5, d6] }
  | _ => none }
def strokeAgainRow : OpenClaim := { program := "ytkiaifmbbnnliaagreat", sum := "ac7bbf8db5286813d639f22da9f3218bcca522c7dce86a3e93f8e73ab98b6129", func := "roquet/roquetlaw04.StrokeAgain", spec := "strokeAgain", unfollowed := true, recurses := true, apart := false }
def StrokeAgainSaid : Prop := strokeAgainRow.holds Tryz.pinned (OpenSpec.ofChange strokeAgainSpec)

/-- ITS FALSE NEIGHBOUR: 'it returns false'. Refute it at one input. -/
def strokeAgainWrong : ChangeSpec := { name := "strokeAgain", fn := fun _ => fun
  | [d1, d2, d3, d4, d5, d6] => { results := [.lit (.bool false)], args := [d1, d2, d3, d4, d5, d6] }
  | _ => none }
def StrokeAgainWrongFalsely : Prop := strokeAgainRow.holds Tryz.pinned (OpenSpec.ofChange strokeAgainWrong)

/-- 'roquetlaw04.StrokeHoops': WHATEVER THE INPUT: true; the input reads as it did. -/
def strokeHoopsSpec : ChangeSpec := { name := "strokeHoops", fn := fun _ => fun
  | [d1, d2, d3, d4] => { results := [.lit (.bool true)], args := [d1, d2, d3, d4] }
  | _ => none }
def strokeHoopsRow : OpenClaim := { program := "ytkiaifmbbnnliaagreat", sum := "ac7bbf8db5286813d639f22da9f3218bcca522c7dce86a3e93f8e73ab98b6129", func := "roquet/roquetlaw04.StrokeHoops", spec := "strokeHoops", unfollowed := true, recurses := true, apart := false }
def StrokeHoopsSaid : Prop := strokeHoopsRow.holds Tryz.pinned (OpenSpec.ofChange strokeHoopsSpec)

/-- ITS FALSE NEIGHBOUR: 'it returns false'. Refute it at one input. -/
def strokeHoopsWrong : ChangeSpec := { name := "strokeHoops", fn := fun _ => fun
  | [d1, d2, d3, d4] => { results := [.lit (.bool false)], args := [d1, d2, d3, d4] }
  | _ => none }
def StrokeHoopsWrongFalsely : Prop := strokeHoopsRow.holds Tryz.pinned (OpenSpec.ofChange strokeHoopsWrong)

/-- 'roquetlaw04.StrokeKnown': WHATEVER THE INPUT: true; the input reads as it did. -/
def strokeKnownSpec : ChangeSpec := { name := "strokeKnown", fn := fun _ => fun
  | [] => { results := [.lit (.bool true)], args := [] }
  | _ => none }
def strokeKnownRow : OpenClaim := { program := "ytkiaifmbbnnliaagreat", sum := "ac7bbf8db5286813d639f22da9f3218bcca522c7dce86a3e93f8e73ab98b6129", func := "roquet/roquetlaw04.StrokeKnown", spec := "strokeKnown", unfollowed := true, recurses := true, apart := false }
def StrokeKnownSaid : Prop := strokeKnownRow.holds Tryz.pinned (OpenSpec.ofChange strokeKnownSpec)

/-- ITS FALSE NEIGHBOUR: 'it returns false'. Refute it at one input. -/
def strokeKnownWrong : ChangeSpec := { name := "strokeKnown", fn := fun _ => fun
  | [] => { results := [.lit (.bool false)], args := [] }
  | _ => none }
def StrokeKnownWrongFalsely : Prop := strokeKnownRow.holds Tryz.pinned (OpenSpec.ofChange strokeKnownWrong)

/-- 'roquetlaw04.StrokeMet': WHATEVER THE INPUT: true; the input reads as it did. -/
def strokeMetSpec : ChangeSpec := { name := "strokeMet", fn := fun _ => fun
  | [d1, d2, d3, d4, d5, d6, d7] => { results := [.lit (.bool true)], args := [d1, d2, d3, d4, d5, d6, d7] }
  | _ => none }
def strokeMetRow : OpenClaim := { program := "ytkiaifmbbnnliaagreat", sum := "ac7bbf8db5286813d639f22da9f3218bcca522c7dce86a3e93f8e73ab98b6129", func := "roquet/roquetlaw04.StrokeMet", spec := "strokeMet", unfollowed := true, recurses := true, apart := false }
def StrokeMetSaid : Prop := strokeMetRow.holds Tryz.pinned (OpenSpec.ofChange strokeMetSpec)

/-- ITS FALSE NEIGHBOUR: 'it returns false'. Refute it at one input. -/
def strokeMetWrong : ChangeSpec := { name := "strokeMet", fn := fun _ => fun
  | [d1, d2, d3, d4, d5, d6, d7] => { results := [.lit (.bool false)], args := [d1, d2, d3, d4, d5, d6, d7] }
  | _ => none }
def StrokeMetWrongFalsely : Prop := strokeMetRow.holds Tryz.pinned (OpenSpec.ofChange strokeMetWrong)

/- THE SECOND FORM. 'bulk': how many values and letters a reading holds, each counted each time it is reached (what is shared counts as often as it is met; a slice's spare places count too). A statement '..UptoSaid' is the law's where the arguments, and the package variables that the reading takes, are together of bulk at most 1048576: NARROWER than '..Said'. Prove '..Said' where nothing that the law and all that it calls make is longer than what came in: it says more and counts as full. Else prove '..UptoSaid'. A law counts once. -/
mutual
def uptoBulk {H : Type} : DataW H → Nat
  | .lit (.string bytes) => bytes.length + 1
  | .lit _ => 1
  | .nil => 1
  | .ptr d => uptoBulk d + 1
  | .slice elems spare => uptoBulkAll elems + uptoBulkAll spare + 1
  | .agg parts => uptoBulkAll parts + 1
  | .iface _ d => uptoBulk d + 1
  | .map entries => uptoBulkEntries entries + 1
  | .held _ => 1
def uptoBulkAll {H : Type} : List (DataW H) → Nat
  | [] => 0
  | d :: r => uptoBulk d + uptoBulkAll r
def uptoBulkEntries {H : Type} : List (Lit × DataW H) → Nat
  | [] => 0
  | x :: r => uptoBulkEntry x + uptoBulkEntries r
def uptoBulkEntry {H : Type} : Lit × DataW H → Nat
  | (.string bytes, d) => bytes.length + uptoBulk d + 1
  | (_, d) => uptoBulk d + 1
 end
def uptoSmall : (H : Type) → List (DataW H) → Bool := fun _ ds => decide (uptoBulkAll ds ≤ 1048576)
def OpenSpec.upto (s : _root_.Go.ChangeSpec) : _root_.Go.OpenSpec := { _root_.Go.OpenSpec.ofChange s with cond := some uptoSmall }

/-- 'roquetlaw04.StrokeStrikes', WHERE WHAT IT READS IS OF BULK AT MOST 1048576: true; the input reads as it did. -/
def strokeStrikesUptoRow : OpenClaim := { program := "ytkiaifmbbnnliaagreat", sum := "ac7bbf8db5286813d639f22da9f3218bcca522c7dce86a3e93f8e73ab98b6129", func := "roquet/roquetlaw04.StrokeStrikes", spec := "strokeStrikes", unfollowed := true, recurses := true, apart := false, narrowed := true }
def StrokeStrikesUptoSaid : Prop := strokeStrikesUptoRow.holds Tryz.pinned (OpenSpec.upto strokeStrikesSpec)

/-- 'roquetlaw04.StrokeTicks', WHERE WHAT IT READS IS OF BULK AT MOST 1048576: true; the input reads as it did. -/
def strokeTicksUptoRow : OpenClaim := { program := "ytkiaifmbbnnliaagreat", sum := "ac7bbf8db5286813d639f22da9f3218bcca522c7dce86a3e93f8e73ab98b6129", func := "roquet/roquetlaw04.StrokeTicks", spec := "strokeTicks", unfollowed := true, recurses := true, apart := false, narrowed := true }
def StrokeTicksUptoSaid : Prop := strokeTicksUptoRow.holds Tryz.pinned (OpenSpec.upto strokeTicksSpec)

/-- 'roquetlaw04.StrokeMomentum', WHERE WHAT IT READS IS OF BULK AT MOST 1048576: true; the input reads as it did. -/
def strokeMomentumUptoRow : OpenClaim := { program := "ytkiaifmbbnnliaagreat", sum := "ac7bbf8db5286813d639f22da9f3218bcca522c7dce86a3e93f8e73ab98b6129", func := "roquet/roquetlaw04.StrokeMomentum", spec := "strokeMomentum", unfollowed := true, recurses := true, apart := false, narrowed := true }
def StrokeMomentumUptoSaid : Prop := strokeMomentumUptoRow.holds Tryz.pinned (OpenSpec.upto strokeMomentumSpec)

/-- 'roquetlaw04.StrokeGrounds', WHERE WHAT IT READS IS OF BULK AT MOST 1048576: true; the input reads as it did. -/
def strokeGroundsUptoRow : OpenClaim := { program := "ytkiaifmbbnnliaagreat", sum := "ac7bbf8db5286813d639f22da9f3218bcca522c7dce86a3e93f8e73ab98b6129", func := "roquet/roquetlaw04.StrokeGrounds", spec := "strokeGrounds", unfollowed := true, recurses := true, apart := false, narrowed := true }
def StrokeGroundsUptoSaid : Prop := strokeGroundsUptoRow.holds Tryz.pinned (OpenSpec.upto strokeGroundsSpec)

/-- 'roquetlaw04.StrokeStill', WHERE WHAT IT READS IS OF BULK AT MOST 1048576: true; the input reads as it did. -/
def strokeStillUptoRow : OpenClaim := { program := "ytkiaifmbbnnliaagreat", sum := "ac7bbf8db5286813d639f22da9f3218bcca522c7dce86a3e93f8e73ab98b6129", func := "roquet/roquetlaw04.StrokeStill", spec := "strokeStill", unfollowed := true, recurses := true, apart := false, narrowed := true }
def StrokeStillUptoSaid : Prop := strokeStillUptoRow.holds Tryz.pinned (OpenSpec.upto strokeStillSpec)

/-- 'roquetlaw04.StrokeKnocks', WHERE WHAT IT READS IS OF BULK AT MOST 1048576: true; the input reads as it did. -/
def strokeKnocksUptoRow : OpenClaim := { program := "ytkiaifmbbnnliaagreat", sum := "ac7bbf8db5286813d639f22da9f3218bcca522c7dce86a3e93f8e73ab98b6129", func := "roquet/roquetlaw04.StrokeKnocks", spec := "strokeKnocks", unfollowed := true, recurses := true, apart := false, narrowed := true }
def StrokeKnocksUptoSaid : Prop := strokeKnocksUptoRow.holds Tryz.pinned (OpenSpec.upto strokeKnocksSpec)

/-- 'roquetlaw04.StrokePlays', WHERE WHAT IT READS IS OF BULK AT MOST 1048576: true; the input reads as it did. -/
def strokePlaysUptoRow : OpenClaim := { program := "ytkiaifmbbnnliaagreat", sum := "ac7bbf8db5286813d639f22da9f3218bcca522c7dce86a3e93f8e73ab98b6129", func := "roquet/roquetlaw04.StrokePlays", spec := "strokePlays", unfollowed := true, recurses := true, apart := false, narrowed := true }
def StrokePlaysUptoSaid : Prop := strokePlaysUptoRow.holds Tryz.pinned (OpenSpec.upto strokePlaysSpec)

/-- 'roquetlaw04.StrokeAgain', WHERE WHAT IT READS IS OF BULK AT MOST 1048576: true; the input reads as it did. -/
def strokeAgainUptoRow : OpenClaim := { program := "ytkiaifmbbnnliaagreat", sum := "ac7bbf8db5286813d639f22da9f3218bcca522c7dce86a3e93f8e73ab98b6129", func := "roquet/roquetlaw04.StrokeAgain", spec := "strokeAgain", unfollowed := true, recurses := true, apart := false, narrowed := true }
def StrokeAgainUptoSaid : Prop := strokeAgainUptoRow.holds Tryz.pinned (OpenSpec.upto strokeAgainSpec)

/-- 'roquetlaw04.StrokeHoops', WHERE WHAT IT READS IS OF BULK AT MOST 1048576: true; the input reads as it did. -/
def strokeHoopsUptoRow : OpenClaim := { program := "ytkiaifmbbnnliaagreat", sum := "ac7bbf8db5286813d639f22da9f3218bcca522c7dce86a3e93f8e73ab98b6129", func := "roquet/roquetlaw04.StrokeHoops", spec := "strokeHoops", unfollowed := true, recurses := true, apart := false, narrowed := true }
def StrokeHoopsUptoSaid : Prop := strokeHoopsUptoRow.holds Tryz.pinned (OpenSpec.upto strokeHoopsSpec)

/-- 'roquetlaw04.StrokeKnown', WHERE WHAT IT READS IS OF BULK AT MOST 1048576: true; the input reads as it did. -/
def strokeKnownUptoRow : OpenClaim := { program := "ytkiaifmbbnnliaagreat", sum := "ac7bbf8db5286813d639f22da9f3218bcca522c7dce86a3e93f8e73ab98b6129", func := "roquet/roquetlaw04.StrokeKnown", spec := "strokeKnown", unfollowed := true, recurses := true, apart := false, narrowed := true }
def StrokeKnownUptoSaid : Prop := strokeKnownUptoRow.holds Tryz.pinned (OpenSpec.upto strokeKnownSpec)

/-- 'roquetlaw04.StrokeMet', WHERE WHAT IT READS IS OF BULK AT MOST 1048576: true; the input reads as it did. -/
def strokeMetUptoRow : OpenClaim := { program := "ytkiaifmbbnnliaagreat", sum := "ac7bbf8db5286813d639f22da9f3218bcca522c7dce86a3e93f8e73ab98b6129", func := "roquet/roquetlaw04.StrokeMet", spec := "strokeMet", unfollowed := true, recurses := true, apart := false, narrowed := true }
def StrokeMetUptoSaid : Prop := strokeMetUptoRow.holds Tryz.pinned (OpenSpec.upto strokeMetSpec)

end Rows
end Go.Proofs.YtkiaifmbbnnliaaGreat
