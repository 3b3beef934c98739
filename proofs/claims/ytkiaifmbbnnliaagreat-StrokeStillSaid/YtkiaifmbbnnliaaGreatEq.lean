import Derived.Test.YtkiaifmbbnnliaaGreatEp
import Derived.Test.YtkiaifmbbnnliaaGreatDw
namespace Go.Proofs.YtkiaifmbbnnliaaGreat
open Go.RowKit
namespace V
namespace St
def a2 (ks : Kns) (s : S2) : S2 := (s.1, s.2.1, ks ++ s.2.2)
def nxS (s : TCT cSt) (r : S2) : TCT cSt := (r.1, r.2.1, s.2.2.1, max 0 (W64 (s.2.2.2.1 - 1)), W64 (s.2.2.2.2.1 + 1), ())
def rnS (g : TCT cGr) : Nat → TCT cSt → Kns → (TCT cSt × Kns) ⊕ Int
  | 0, s, ks => bif decide ((ks.length : Int) > 4096) then .inr 6 else .inl (s, ks)
  | n + 1, s, ks => bif decide ((ks.length : Int) > 4096) then .inr 6 else bif !stillB s then match tkF (ctS g s) (msT s, osT s, ks) with
    | .inl r => rnS g n (nxS s r) r.2.2
    | .inr e => .inr e
    else .inl (s, ks)
def gZ (g : TCT cGr) (s : TCT cSt) (stp : Int) (ks : Kns) : GB := ((g.1.1, g.1.2.1, g.1.2.2.1, g.1.2.2.2.1, g.1.2.2.2.2.1, g.1.2.2.2.2.2.1.1.1, g.1.2.2.2.2.2.1.1.2.1, g.1.2.2.2.2.2.1.2.1, g.1.2.2.2.2.2.2.1, g.1.2.2.2.2.2.2.2.1, g.1.2.2.2.2.2.2.2.2.1, g.2.1, g.2.2.1.1, g.2.2.1.2.1, postsV g.1, s.1, s.2.1, s.2.2.1, s.2.2.2.1, s.2.2.2.2.1, stp, ((), (), ()), ()), (ks, ()), ())
def runS : (TCT cSt × Kns) ⊕ Int → TkR
  | .inl r => ((r.1.1, r.1.2.1, r.1.2.2.1, r.1.2.2.2.1, r.1.2.2.2.2.1, ()), r.2, 0, ())
  | .inr e => errT e
theorem plRn_rnS {g : TCT cGr} : ∀ (n : Nat) (s : TCT cSt) (stp : Int) (ks : Kns), runR (plRn n (gZ g s stp ks)) = runS (rnS g n s ks)
  | 0, s, stp, ks => by
    show runR (bif decide ((ks.length : Int) > 4096) then .inr 6 else .inl (gZ g s stp ks)) = runS (bif decide ((ks.length : Int) > 4096) then .inr 6 else .inl (s, ks))
    cases decide ((ks.length : Int) > 4096) <;> rfl
  | n + 1, s, stp, ks => by
    show runR (bif decide ((ks.length : Int) > 4096) then .inr 6 else bif !stillB (stG (gZ g s stp ks).1) then match tkF (ctS g s) (msT s, osT s, ks) with
      | .inl r => plRn n (gZ g (nxS s r) 17 r.2.2)
      | .inr e => .inr e
      else .inl (gZ g s stp ks)) = runS (bif decide ((ks.length : Int) > 4096) then .inr 6 else bif !stillB s then match tkF (ctS g s) (msT s, osT s, ks) with
      | .inl r => rnS g n (nxS s r) r.2.2
      | .inr e => .inr e
      else .inl (s, ks))
    cases decide ((ks.length : Int) > 4096) with
    | true => rfl
    | false =>
      show runR (bif !stillB s then match tkF (ctS g s) (msT s, osT s, ks) with
        | .inl r => plRn n (gZ g (nxS s r) 17 r.2.2)
        | .inr e => .inr e
        else .inl (gZ g s stp ks)) = runS (bif !stillB s then match tkF (ctS g s) (msT s, osT s, ks) with
        | .inl r => rnS g n (nxS s r) r.2.2
        | .inr e => .inr e
        else .inl (s, ks))
      cases stillB s with
      | true => rfl
      | false =>
        simp only [Bool.not_false, cond_true]
        cases tkF (ctS g s) (msT s, osT s, ks) with
        | inr e => rfl
        | inl r => exact plRn_rnS n (nxS s r) 17 r.2.2
theorem PlayV_eq {g : TCT cGr} {s : TCT cSt} {n : Int} : PlayV g s n = bif staE g s != 0 then errT (staE g s) else bif decide (n < 0) || decide (n > 4000) then errT 3 else runS (rnS g (Int.toNat n) s []) := by
  unfold PlayV
  rw [show runR (plRn (Int.toNat n) (gT g s)) = runS (rnS g (Int.toNat n) s []) from plRn_rnS (Int.toNat n) s 0 []]
end St
end V
end Go.Proofs.YtkiaifmbbnnliaaGreat
