/- The law EventFair: its tree; plain facts of draws. -/
import Derived.Test.YtgchccljmjmibaaFl
namespace Go.Proofs.Ytgchccljmjmibaa
open Go.RowKit
namespace V
namespace Ev
def w3_fa (y : Option (Left' E_a3)) : Tree Unit := bif isE .ret y then (bif (valE .ret y).1.1 then .leaf () else .fail) else bif isE (.exit 6) y then .leaf () else .fail
def w2_fa (n k : Int) (s : List Int) (r b : Int) : Tree Unit := bif b != W64 ((s.length : Int) - n) then .fail else bif decide ((s.length : Int) ≥ W64 (2 * n)) then .fail else bif decide (0 ≤ r) then (bif (s.length : Int) != p2 r then .fail else w3_fa (iter st_a3 (Int.toNat r + 2) (hd_a3 k s r 1))) else .fail
def y2_fa (y : Option (Left' E_a2)) : Tree Unit := bif isE .ret y then (bif (valE .ret y).1.1 then .leaf () else .fail) else bif isE (.exit 4) y then w2_fa (valE (.exit 4) y).1.1 (valE (.exit 4) y).1.2.1 (valE (.exit 4) y).1.2.2.1 (valE (.exit 4) y).1.2.2.2.1 (valE (.exit 4) y).1.2.2.2.2.1 else .fail
def w1_fa (n k : Int) (s : List Int) (e : List Bool) (r b : Int) : Tree Unit := y2_fa (iter st_a2 (s.length + 1) (hd_a2 n k s e r b 0))
def y1_fa (y : Option (Left' E_a1)) : Tree Unit := bif isE (.exit 2) y then w1_fa (valE (.exit 2) y).1.1 (valE (.exit 2) y).1.2.1 (valE (.exit 2) y).1.2.2.1 (valE (.exit 2) y).1.2.2.2.1 (valE (.exit 2) y).1.2.2.2.2.1 (valE (.exit 2) y).1.2.2.2.2.2.1 else .fail
def w0_fa (n k : Int) (d : List Int × Int) : Tree Unit := bif d.2 != 0 then .fail else bif drV d.1 != 0 then .fail else mkT n (y1_fa (iter st_a1 8 (hd_a1 n k d.1 (List.replicate (Int.toNat n) false) 0 0)))
def y0_fa (y : Option (Left' E_a0)) : Tree Unit := bif isE (.exit 0) y then w0_fa (valE (.exit 0) y).1.1 (valE (.exit 0) y).1.2.1 (drwV (valE (.exit 0) y).1.1 (valE (.exit 0) y).1.2.1 (valE (.exit 0) y).1.2.2.1) else .fail
def T_fa' (m : Int) (u : Int) (lo : List Int) : Tree Unit := bif W64 (m + 1) != 0 then y0_fa (iter st_a0 (Int.toNat m + 1) (hd_a0 lo m (Int.tmod (W64 u) (W64 (m + 1))) [] 0)) else .fail
def T_fa (n u : Int) (lo : List Int) : Tree Unit := T_fa' (W64 (2 + Int.tmod (W64 n) 63)) u lo
end Ev
open Ev
theorem T_fa_eq (y : TCTs cs_eventFair) : evFn X_eventFair 7 (.fn 7) (encAs cs_eventFair y) noHeap 0 lawK = T_fa y.1 y.2.1 y.2.2.1 := by kernel_rfl
end V
end Go.Proofs.Ytgchccljmjmibaa
