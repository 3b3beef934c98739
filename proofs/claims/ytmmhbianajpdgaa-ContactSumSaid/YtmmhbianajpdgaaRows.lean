/-
  No cell of these rows narrows 'for every input' (looked for: loops, veiled, ifaces, maps, wideKeys, modest, calm, conditions, laid).
  DERIVED. THE GIVEN ROWS OF THIS SEAT. 10 by the template 'for every input the law returns true; each argument reads behind the call as it read before'; 0 by the template 'total and deterministic' (their statements: YtmmhbianajpdgaaTotals.lean).
  GIVEN WITH THE SEED: the statements are not yours to turn. If you find one false, say at which input.
  Laid BY PROGRAM, IN A SANDBOX (cutbox-rows.mjs): the forced cells as the released guide's own fill.sh prints them over the translation 1d0d85d4cb31850d… (all of the seat's roots in one cut). By AI agents, Wed Nov 11 2026. No macro, syntax, notation, axiom, sorry.
-/
import Derived.Test.YtmmhbianajpdgaaChecked
import GoSem.Claim
import GoSem.ClaimJoined
import GoSem.ClaimMapViews
import Derived.JoinedTies
import Derived.KernelRfl
namespace Go.Proofs.Ytmmhbianajpdgaa
/- THE CELL 'sum', in the pinned program and in every row, IS THE sha256 OF THE DUMP (.gsa) THAT YtmmhbianajpdgaaProg.lean LOADS. Nothing in Lean hashes anything: it is a label: what it is worth is what the hold of that sum in a sandbox is worth. -/
noncomputable def Try.pinned : Pinned := { name := "ytmmhbianajpdgaa", sum := "1d0d85d4cb31850df90429a6c15c8fad71edf4daaacf9fa9be3704db97593182", checked := Try.checked }
namespace Rows
def none {H : Type} : Left H := { results := [], args := [] }

/-- 'roquetlaw03.ContactMirrored': WHATEVER THE INPUT: true; the input reads as it did. -/
def contactMirroredSpec : ChangeSpec := { name := "contactMirrored", fn := fun _ => fun
  | [d1, d2, d3, d4, d5] => { results := [.lit (.bool true)], args := [d1, d2, d3, d4, d5] }
  | _ => none }
def contactMirroredRow : OpenClaim := { program := "ytmmhbianajpdgaa", sum := "1d0d85d4cb31850df90429a6c15c8fad71edf4daaacf9fa9be3704db97593182", func := "roquet/roquetlaw03.ContactMirrored", spec := "contactMirrored", unfollowed := true, recurses := true, apart := false }
def ContactMirroredSaid : Prop := contactMirroredRow.holds Try.pinned (OpenSpec.ofChange contactMirroredSpec)

/-- ITS FALSE NEIGHBOUR: 'it returns false'. Refute it at one input. -/
def contactMirroredWrong : ChangeSpec := { name := "contactMirrored", fn := fun _ => fun
  | [d1, d2, d3, d4, d5] => { results := [.lit (.bool false)], args := [d1, d2, d3, d4, d5] }
  | _ => none }
def ContactMirroredWrongFalsely : Prop := contactMirroredRow.holds Try.pinned (OpenSpec.ofChange contactMirroredWrong)

/-- 'roquetlaw03.ContactLost': WHATEVER THE INPUT: true; the input reads as it did. -/
def contactLostSpec : ChangeSpec := { name := "contactLost", fn := fun _ => fun
  | [d1, d2, d3] => { results := [.lit (.bool true)], args := [d1, d2, d3] }
  | _ => none }
def contactLostRow : OpenClaim := { program := "ytmmhbianajpdgaa", sum := "1d0d85d4cb31850df90429a6c15c8fad71edf4daaacf9fa9be3704db97593182", func := "roquet/roquetlaw03.ContactLost", spec := "contactLost", unfollowed := true, recurses := true, apart := false }
def ContactLostSaid : Prop := contactLostRow.holds Try.pinned (OpenSpec.ofChange contactLostSpec)

/-- ITS FALSE NEIGHBOUR: 'it returns false'. Refute it at one input. -/
def contactLostWrong : ChangeSpec := { name := "contactLost", fn := fun _ => fun
  | [d1, d2, d3] => { results := [.lit (.bool false)], args := [d1, d2, d3] }
  | _ => none }
def ContactLostWrongFalsely : Prop := contactLostRow.holds Try.pinned (OpenSpec.ofChange contactLostWrong)

/-- 'roquetlaw03.ContactApart': WHATEVER THE INPUT: true; the input reads as it did. -/
def contactApartSpec : ChangeSpec := { name := "contactApart", fn := fun _ => fun
  | [d1, d2, d3, d4, d5] => { results := [.lit (.bool true)], args := [d1, d2, d3, d4, d5] }
  | _ => none }
def contactApartRow : OpenClaim := { program := "ytmmhbianajpdgaa", sum := "1d0d85d4cb31850df90429a6c15c8fad71edf4daaacf9fa9be3704db97593182", func := "roquet/roquetlaw03.ContactApart", spec := "contactApart", unfollowed := true, recurses := true, apart := false }
def ContactApartSaid : Prop := contactApartRow.holds Try.pinned (OpenSpec.ofChange contactApartSpec)

/-- ITS FALSE NEIGHBOUR: 'it returns false'. Refute it at one input. -/
def contactApartWrong : ChangeSpec := { name := "contactApart", fn := fun _ => fun
  | [d1, d2, d3, d4, d5] => { results := [.lit (.bool false)], args := [d1, d2, d3, d4, d5] }
  | _ => none }
def ContactApartWrongFalsely : Prop := contactApartRow.holds Try.pinned (OpenSpec.ofChange contactApartWrong)

/-- 'roquetlaw03.ContactStraight': WHATEVER THE INPUT: true; the input reads as it did. -/
def contactStraightSpec : ChangeSpec := { name := "contactStraight", fn := fun _ => fun
  | [d1, d2, d3, d4] => { results := [.lit (.bool true)], args := [d1, d2, d3, d4] }
  | _ => none }
def contactStraightRow : OpenClaim := { program := "ytmmhbianajpdgaa", sum := "1d0d85d4cb31850df90429a6c15c8fad71edf4daaacf9fa9be3704db97593182", func := "roquet/roquetlaw03.ContactStraight", spec := "contactStraight", unfollowed := true, recurses := true, apart := false }
def ContactStraightSaid : Prop := contactStraightRow.holds Try.pinned (OpenSpec.ofChange contactStraightSpec)

/-- ITS FALSE NEIGHBOUR: 'it returns false'. Refute it at one input. -/
def contactStraightWrong : ChangeSpec := { name := "contactStraight", fn := fun _ => fun
  | [d1, d2, d3, d4] => { results := [.lit (.bool false)], args := [d1, d2, d3, d4] }
  | _ => none }
def ContactStraightWrongFalsely : Prop := contactStraightRow.holds Try.pinned (OpenSpec.ofChange contactStraightWrong)

/-- 'roquetlaw03.ContactKept': WHATEVER THE INPUT: true; the input reads as it did. -/
def contactKeptSpec : ChangeSpec := { name := "contactKept", fn := fun _ => fun
  | [d1, d2, d3, d4, d5] => { results := [.lit (.bool true)], args := [d1, d2, d3, d4, d5] }
  | _ => none }
def contactKeptRow : OpenClaim := { program := "ytmmhbianajpdgaa", sum := "1d0d85d4cb31850df90429a6c15c8fad71edf4daaacf9fa9be3704db97593182", func := "roquet/roquetlaw03.ContactKept", spec := "contactKept", unfollowed := true, recurses := true, apart := false }
def ContactKeptSaid : Prop := contactKeptRow.holds Try.pinned (OpenSpec.ofChange contactKeptSpec)

/-- ITS FALSE NEIGHBOUR: 'it returns false'. Refute it at one input. -/
def contactKeptWrong : ChangeSpec := { name := "contactKept", fn := fun _ => fun
  | [d1, d2, d3, d4, d5] => { results := [.lit (.bool false)], args := [d1, d2, d3, d4, d5] }
  | _ => none }
def ContactKeptWrongFalsely : Prop := contactKeptRow.holds Try.pinned (OpenSpec.ofChange contactKeptWrong)

/-- 'roquetlaw03.ContactKicks': WHATEVER THE INPUT: true; the input reads as it did. -/
def contactKicksSpec : ChangeSpec := { name := "contactKicks", fn := fun _ => fun
  | [d1, d2, d3, d4, d5, d6] => { results := [.lit (.bool true)], args := [d1, d2, d3, d4, d5, d6] }
  | _ => none }
def contactKicksRow : OpenClaim := { program := "ytmmhbianajpdgaa", sum := "1d0d85d4cb31850df90429a6c15c8fad71edf4daaacf9fa9be3704db97593182", func := "roquet/roquetlaw03.ContactKicks", spec := "contactKicks", unfollowed := true, recurses := true, apart := false }
def ContactKicksSaid : Prop := contactKicksRow.holds Try.pinned (OpenSpec.ofChange contactKicksSpec)

/-- ITS FALSE NEIGHBOUR: 'it returns false'. Refute it at one input. -/
def contactKicksWrong : ChangeSpec := { name := "contactKicks", fn := fun _ => fun
  | [d1, d2, d3, d4, d5, d6] => { results := [.lit (.bool false)], args := [d1, d2, d3, d4, d5, d6] }
  | _ => none }
def ContactKicksWrongFalsely : Prop := contactKicksRow.holds Try.pinned (OpenSpec.ofChange contactKicksWrong)

/-- 'roquetlaw03.ContactSteps': WHATEVER THE INPUT: true; the input reads as it did. -/
def contactStepsSpec : ChangeSpec := { name := "contactSteps", fn := fun _ => fun
  | [d1, d2, d3, d4, d5, d6] => { results := [.lit (.bool true)], args := [d1, d2, d3, d4, d5, d6] }
  | _ => none }
def contactStepsRow : OpenClaim := { program := "ytmmhbianajpdgaa", sum := "1d0d85d4cb31850df90429a6c15c8fad71edf4daaacf9fa9be3704db97593182", func := "roquet/roquetlaw03.ContactSteps", spec := "contactSteps", unfollowed := true, recurses := true, apart := false }
def ContactStepsSaid : Prop := contactStepsRow.holds Try.pinned (OpenSpec.ofChange contactStepsSpec)

/-- ITS FALSE NEIGHBOUR: 'it returns false'. Refute it at one input. -/
def contactStepsWrong : ChangeSpec := { name := "contactSteps", fn := fun _ => fun
  | [d1, d2, d3, d4, d5, d6] => { results := [.lit (.bool false)], args := [d1, d2, d3, d4, d5, d6] }
  | _ => none }
def ContactStepsWrongFalsely : Prop := contactStepsRow.holds Try.pinned (OpenSpec.ofChange contactStepsWrong)

/-- 'roquetlaw03.ContactSettles': WHATEVER THE INPUT: true; the input reads as it did. -/
def contactSettlesSpec : ChangeSpec := { name := "contactSettles", fn := fun _ => fun
  | [d1, d2, d3] => { results := [.lit (.bool true)], args := [d1, d2, d3] }
  | _ => none }
def contactSettlesRow : OpenClaim := { program := "ytmmhbianajpdgaa", sum := "1d0d85d4cb31850df90429a6c15c8fad71edf4daaacf9fa9be3704db97593182", func := "roquet/roquetlaw03.ContactSettles", spec := "contactSettles", unfollowed := true, recurses := true, apart := false }
def ContactSettlesSaid : Prop := contactSettlesRow.holds Try.pinned (OpenSpec.ofChange contactSettlesSpec)

/-- ITS FALSE NEIGHBOUR: 'it returns false'. Refute it at one input. -/
def contactSettlesWrong : ChangeSpec := { name := "contactSettles", fn := fun _ => fun
  | [d1, d2, d3] => { results := [.lit (.bool false)], args := [d1, d2, d3] }
  | _ => none }
def ContactSettlesWrongFalsely : Prop := contactSettlesRow.holds Try.pinned (OpenSpec.ofChange contactSettlesWrong)

/-- 'roquetlaw03.ContactSum': WHATEVER THE INPUT: true; the input reads as it did. -/
def contactSumSpec : ChangeSpec := { name := "contactSum", fn := fun _ => fun
  | [d1, d2, d3] => { results := [.lit (.bool true)], args := [d1, d2, d3] }
  | _ => none }
def contactSumRow : OpenClaim := { program := "ytmmhbianajpdgaa", sum := "1d0d85d4cb31850df90429a6c15c8fad71edf4daaacf9fa9be3704db97593182", func := "roquet/roquetlaw03.ContactSum", spec := "contactSum", unfollowed := true, recurses := true, apart := false }
def ContactSumSaid : Prop := contactSumRow.holds Try.pinned (OpenSpec.ofChange contactSumSpec)

/-- ITS FALSE NEIGHBOUR: 'it returns false'. Refute it at one input. -/
def contactSumWrong : ChangeSpec := { name := "contactSum", fn := fun _ => fun
  | [d1, d2, d3] => { results := [.lit (.bool false)], args := [d1, d2, d3] }
  | _ => none }
def ContactSumWrongFalsely : Prop := contactSumRow.holds Try.pinned (OpenSpec.ofChange contactSumWrong)

/-- 'roquetlaw03.ContactFades': WHATEVER THE INPUT: true; the input reads as it did. -/
def contactFadesSpec : ChangeSpec := { name := "contactFades", fn := fun _ => fun
  | [d1, d2, d3, d4, d5, d6] => { results := [.lit (.bool true)], args := [d1, d2, d3, d4, d5, d6] }
  | _ => none }
def contactFadesRow : OpenClaim := { program := "ytmmhbianajpdgaa", sum := "1d0d85d4cb31850df90429a6c15c8fad71edf4daaacf9fa9be3704db97593182", func := "roquet/roquetlaw03.ContactFades", spec := "contactFades", unfollowed := true, recurses := true, apart := false }
def ContactFadesSaid : Prop := contactFadesRow.holds Try.pinned (OpenSpec.ofChange contactFadesSpec)

/-- ITS FALSE NEIGHBOUR: 'it returns false'. Refute it at one input. -/
def contactFadesWrong : ChangeSpec := { name := "contactFades", fn := fun _ => fun
  | [d1, d2, d3, d4, d5, d6] => { results := [.lit (.bool false)], args := [d1, d2, d3, d4, d5, d6] }
  | _ => none }
def ContactFadesWrongFalsely : Prop := contactFadesRow.holds Try.pinned (OpenSpec.ofChange contactFadesWrong)

/- THE SECOND FORM. 'bulk': how many values and letters a reading holds, each counted each time it is reached (what is shared counts as often as it is met; a slice's spare places count too). A statement '..UptoSaid' is the law's where the arguments, and the package variables that the reading takes, are together of bulk at most 1048576: NARROWER than '..Said'. Prove '..Said' where nothing that the law and all that it calls make is longer than what came in: it says more and counts as full. Else prove '..UptoSaid'. A law counts once. -/
mutual
def uptoBulk {H : Type} : DataW H → Nat
  | .lit (.string bytes) => bytes.length + 1
  | .lit _ => 1
  | .nil => 1
  | .ptr d => uptoBulk d + 1
  | .slice elems spare => uptoBulkAll elems + uptoBulkAll spare + 1
  | .agg parts => uptoBulkAll parts + 1
  | .iface _ d => uptoBulk d + 1
  | .map entries => uptoBulkEntries entries + 1
  | .held _ => 1
def uptoBulkAll {H : Type} : List (DataW H) → Nat
  | [] => 0
  | d :: r => uptoBulk d + uptoBulkAll r
def uptoBulkEntries {H : Type} : List (Lit × DataW H) → Nat
  | [] => 0
  | x :: r => uptoBulkEntry x + uptoBulkEntries r
def uptoBulkEntry {H : Type} : Lit × DataW H → Nat
  | (.string bytes, d) => bytes.length + uptoBulk d + 1
  | (_, d) => uptoBulk d + 1
 end
def uptoSmall : (H : Type) → List (DataW H) → Bool := fun _ ds => decide (uptoBulkAll ds ≤ 1048576)
def OpenSpec.upto (s : _root_.Go.ChangeSpec) : _root_.Go.OpenSpec := { _root_.Go.OpenSpec.ofChange s with cond := some uptoSmall }

/-- 'roquetlaw03.ContactMirrored', WHERE WHAT IT READS IS OF BULK AT MOST 1048576: true; the input reads as it did. -/
def contactMirroredUptoRow : OpenClaim := { program := "ytmmhbianajpdgaa", sum := "1d0d85d4cb31850df90429a6c15c8fad71edf4daaacf9fa9be3704db97593182", func := "roquet/roquetlaw03.ContactMirrored", spec := "contactMirrored", unfollowed := true, recurses := true, apart := false, narrowed := true }
def ContactMirroredUptoSaid : Prop := contactMirroredUptoRow.holds Try.pinned (OpenSpec.upto contactMirroredSpec)

/-- 'roquetlaw03.ContactLost', WHERE WHAT IT READS IS OF BULK AT MOST 1048576: true; the input reads as it did. -/
def contactLostUptoRow : OpenClaim := { program := "ytmmhbianajpdgaa", sum := "1d0d85d4cb31850df90429a6c15c8fad71edf4daaacf9fa9be3704db97593182", func := "roquet/roquetlaw03.ContactLost", spec := "contactLost", unfollowed := true, recurses := true, apart := false, narrowed := true }
def ContactLostUptoSaid : Prop := contactLostUptoRow.holds Try.pinned (OpenSpec.upto contactLostSpec)

/-- 'roquetlaw03.ContactApart', WHERE WHAT IT READS IS OF BULK AT MOST 1048576: true; the input reads as it did. -/
def contactApartUptoRow : OpenClaim := { program := "ytmmhbianajpdgaa", sum := "1d0d85d4cb31850df90429a6c15c8fad71edf4daaacf9fa9be3704db97593182", func := "roquet/roquetlaw03.ContactApart", spec := "contactApart", unfollowed := true, recurses := true, apart := false, narrowed := true }
def ContactApartUptoSaid : Prop := contactApartUptoRow.holds Try.pinned (OpenSpec.upto contactApartSpec)

/-- 'roquetlaw03.ContactStraight', WHERE WHAT IT READS IS OF BULK AT MOST 1048576: true; the input reads as it did. -/
def contactStraightUptoRow : OpenClaim := { program := "ytmmhbianajpdgaa", sum := "1d0d85d4cb31850df90429a6c15c8fad71edf4daaacf9fa9be3704db97593182", func := "roquet/roquetlaw03.ContactStraight", spec := "contactStraight", unfollowed := true, recurses := true, apart := false, narrowed := true }
def ContactStraightUptoSaid : Prop := contactStraightUptoRow.holds Try.pinned (OpenSpec.upto contactStraightSpec)

/-- 'roquetlaw03.ContactKept', WHERE WHAT IT READS IS OF BULK AT MOST 1048576: true; the input reads as it did. -/
def contactKeptUptoRow : OpenClaim := { program := "ytmmhbianajpdgaa", sum := "1d0d85d4cb31850df90429a6c15c8fad71edf4daaacf9fa9be3704db97593182", func := "roquet/roquetlaw03.ContactKept", spec := "contactKept", unfollowed := true, recurses := true, apart := false, narrowed := true }
def ContactKeptUptoSaid : Prop := contactKeptUptoRow.holds Try.pinned (OpenSpec.upto contactKeptSpec)

/-- 'roquetlaw03.ContactKicks', WHERE WHAT IT READS IS OF BULK AT MOST 1048576: true; the input reads as it did. -/
def contactKicksUptoRow : OpenClaim := { program := "ytmmhbianajpdgaa", sum := "1d0d85d4cb31850df90429a6c15c8fad71edf4daaacf9fa9be3704db97593182", func := "roquet/roquetlaw03.ContactKicks", spec := "contactKicks", unfollowed := true, recurses := true, apart := false, narrowed := true }
def ContactKicksUptoSaid : Prop := contactKicksUptoRow.holds Try.pinned (OpenSpec.upto contactKicksSpec)

/-- 'roquetlaw03.ContactSteps', WHERE WHAT IT READS IS OF BULK AT MOST 1048576: true; the input reads as it did. -/
def contactStepsUptoRow : OpenClaim := { program := "ytmmhbianajpdgaa", sum := "1d0d85d4cb31850df90429a6c15c8fad71edf4daaacf9fa9be3704db97593182", func := "roquet/roquetlaw03.ContactSteps", spec := "contactSteps", unfollowed := true, recurses := true, apart := false, narrowed := true }
def ContactStepsUptoSaid : Prop := contactStepsUptoRow.holds Try.pinned (OpenSpec.upto contactStepsSpec)

/-- 'roquetlaw03.ContactSettles', WHERE WHAT IT READS IS OF BULK AT MOST 1048576: true; the input reads as it did. -/
def contactSettlesUptoRow : OpenClaim := { program := "ytmmhbianajpdgaa", sum := "1d0d85d4cb31850df90429a6c15c8fad71edf4daaacf9fa9be3704db97593182", func := "roquet/roquetlaw03.ContactSettles", spec := "contactSettles", unfollowed := true, recurses := true, apart := false, narrowed := true }
def ContactSettlesUptoSaid : Prop := contactSettlesUptoRow.holds Try.pinned (OpenSpec.upto contactSettlesSpec)

/-- 'roquetlaw03.ContactSum', WHERE WHAT IT READS IS OF BULK AT MOST 1048576: true; the input reads as it did. -/
def contactSumUptoRow : OpenClaim := { program := "ytmmhbianajpdgaa", sum := "1d0d85d4cb31850df90429a6c15c8fad71edf4daaacf9fa9be3704db97593182", func := "roquet/roquetlaw03.ContactSum", spec := "contactSum", unfollowed := true, recurses := true, apart := false, narrowed := true }
def ContactSumUptoSaid : Prop := contactSumUptoRow.holds Try.pinned (OpenSpec.upto contactSumSpec)

/-- 'roquetlaw03.ContactFades', WHERE WHAT IT READS IS OF BULK AT MOST 1048576: true; the input reads as it did. -/
def contactFadesUptoRow : OpenClaim := { program := "ytmmhbianajpdgaa", sum := "1d0d85d4cb31850df90429a6c15c8fad71edf4daaacf9fa9be3704db97593182", func := "roquet/roquetlaw03.ContactFades", spec := "contactFades", unfollowed := true, recurses := true, apart := false, narrowed := true }
def ContactFadesUptoSaid : Prop := contactFadesUptoRow.holds Try.pinned (OpenSpec.upto contactFadesSpec)

end Rows
end Go.Proofs.Ytmmhbianajpdgaa
