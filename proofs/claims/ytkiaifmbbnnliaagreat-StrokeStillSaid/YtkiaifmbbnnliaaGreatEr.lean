import Derived.Test.YtkiaifmbbnnliaaGreatEq
namespace Go.Proofs.YtkiaifmbbnnliaaGreat
open Go.RowKit
namespace V
namespace St
theorem rnS_zero {g : TCT cGr} (s : TCT cSt) (ks : Kns) : rnS g 0 s ks = bif decide ((ks.length : Int) > 4096) then .inr 6 else .inl (s, ks) := rfl
theorem rnS_succ {g : TCT cGr} (n : Nat) (s : TCT cSt) (ks : Kns) : rnS g (n + 1) s ks = bif decide ((ks.length : Int) > 4096) then .inr 6 else bif !stillB s then match tkF (ctS g s) (msT s, osT s, ks) with
    | .inl r => rnS g n (nxS s r) r.2.2
    | .inr e => .inr e
    else .inl (s, ks) := rfl
theorem rnS_still {g : TCT cGr} {n : Nat} {s : TCT cSt} {ks : Kns} (h : decide ((ks.length : Int) > 4096) = false) (hs : stillB s = true) : rnS g n s ks = .inl (s, ks) := by
  cases n with
  | zero => rw [rnS_zero, h]; rfl
  | succ n => rw [rnS_succ, h, hs]; rfl
theorem sta_of {g : TCT cGr} {s : TCT cSt} (h : StaOk g s) : staE g s = 0 := by
  unfold staE vaE
  have e : eqlS g s = true := by
    unfold eqlS
    rw [h.m, h.o, beq_self_eq_true]; rfl
  rw [h.gr, e, h.ok, h.num]; rfl
theorem sta_ne {g : TCT cGr} {s : TCT cSt} (h : StaOk g s) : (staE g s != 0) = false := by rw [sta_of h]; rfl
theorem play_of {g : TCT cGr} {s : TCT cSt} {n : Nat} (h : StaOk g s) (hn : n ≤ 4000) : PlayV g s (n : Int) = runS (rnS g n s []) := by
  rw [PlayV_eq, sta_ne h, decide_eq_false (show ¬ (n : Int) < 0 by omega), decide_eq_false (show ¬ (n : Int) > 4000 by omega)]
  rfl
end St
end V
end Go.Proofs.YtkiaifmbbnnliaaGreat
