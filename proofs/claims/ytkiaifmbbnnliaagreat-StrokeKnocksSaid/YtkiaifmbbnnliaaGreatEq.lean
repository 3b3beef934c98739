import Derived.Test.YtkiaifmbbnnliaaGreatEp
import Derived.Test.YtkiaifmbbnnliaaGreatDw
namespace Go.Proofs.YtkiaifmbbnnliaaGreat
open Go.RowKit
namespace V
namespace St
def a2 (ks : Kns) (s : S2) : S2 := (s.1, s.2.1, ks ++ s.2.2)
def nxS (s : TCT cSt) (r : S2) : TCT cSt := (r.1, r.2.1, s.2.2.1, max 0 (W64 (s.2.2.2.1 - 1)), W64 (s.2.2.2.2.1 + 1), ())
theorem num_of {n a b c : Int} (h1 : 0 ≤ a ∧ a < n) (h2 : 0 ≤ b ∧ b ≤ 8) (h3 : 0 ≤ c ∧ c ≤ 4000) : (decide (a < 0) || (decide (a ≥ n) || (decide (b < 0) || (decide (b > 8) || (decide (c < 0) || decide (c > 4000)))))) = false := by
  simp only [Bool.or_eq_false_iff, decide_eq_false_iff_not]
  omega
theorem num_in {n a b c : Int} (h : (decide (a < 0) || (decide (a ≥ n) || (decide (b < 0) || (decide (b > 8) || (decide (c < 0) || decide (c > 4000)))))) = false) : (0 ≤ a ∧ a < n) ∧ (0 ≤ b ∧ b ≤ 8) ∧ (0 ≤ c ∧ c ≤ 4000) := by
  simp only [Bool.or_eq_false_iff, decide_eq_false_iff_not] at h
  omega
theorem nx_num {b c : Int} (h2 : 0 ≤ b ∧ b ≤ 8) (h3 : 0 ≤ c ∧ c ≤ 4000) (h4 : ¬ c = 4000) : (0 ≤ max 0 (W64 (b - 1)) ∧ max 0 (W64 (b - 1)) ≤ 8) ∧ (0 ≤ W64 (c + 1) ∧ W64 (c + 1) ≤ 4000) := by
  rw [W64_id (n := b - 1) (by omega) (by omega), W64_id (n := c + 1) (by omega) (by omega)]
  omega
theorem tick_sta {g : TCT cGr} {s : TCT cSt} {ks : Kns} {r : S2} (h : StaOk g s) (ht : tkF (ctS g s) (msT s, osT s, ks) = .inl r) : StaOk g (nxS s r) := by
  have a := sta_rq h
  have b := tkF_rq (k := ctS g s) (s := (msT s, osT s, ks)) ht a.1 a.2
  have hn : (0 ≤ s.2.2.1 ∧ s.2.2.1 < ((ballsG g).length : Int)) ∧ (0 ≤ s.2.2.2.1 ∧ s.2.2.2.1 ≤ 8) ∧ (0 ≤ s.2.2.2.2.1 ∧ s.2.2.2.2.1 ≤ 4000) := num_in h.num
  have h4 : ¬ s.2.2.2.2.1 = 4000 := by
    intro e
    unfold tkF at ht
    rw [show ((ctS g s).t == 4000) = true from beq_iff_eq.2 e] at ht
    cases ht
  have c := nx_num hn.2.1 hn.2.2 h4
  exact rq_sta h.gr h.n1 h.n8 b.1 b.2 (num_of hn.1 c.1 c.2)
def rnS (g : TCT cGr) : Nat → TCT cSt → Kns → (TCT cSt × Kns) ⊕ Int
  | 0, s, ks => bif decide ((ks.length : Int) > 4096) then .inr 6 else .inl (s, ks)
  | n + 1, s, ks => bif decide ((ks.length : Int) > 4096) then .inr 6 else bif !stillB s then match tkF (ctS g s) (msT s, osT s, ks) with
    | .inl r => rnS g n (nxS s r) r.2.2
    | .inr e => .inr e
    else .inl (s, ks)
def gZ (g : TCT cGr) (s : TCT cSt) (stp : Int) (ks : Kns) : GB := ((g.1.1, g.1.2.1, g.1.2.2.1, g.1.2.2.2.1, g.1.2.2.2.2.1, g.1.2.2.2.2.2.1.1.1, g.1.2.2.2.2.2.1.1.2.1, g.1.2.2.2.2.2.1.2.1, g.1.2.2.2.2.2.2.1, g.1.2.2.2.2.2.2.2.1, g.1.2.2.2.2.2.2.2.2.1, g.2.1, g.2.2.1.1, g.2.2.1.2.1, postsV g.1, s.1, s.2.1, s.2.2.1, s.2.2.2.1, s.2.2.2.2.1, stp, ((), (), ()), ()), (ks, ()), ())
def runS : (TCT cSt × Kns) ⊕ Int → TkR
  | .inl r => ((r.1.1, r.1.2.1, r.1.2.2.1, r.1.2.2.2.1, r.1.2.2.2.2.1, ()), r.2, 0, ())
  | .inr e => errT e
theorem plRn_rnS {g : TCT cGr} : ∀ (n : Nat) (s : TCT cSt) (stp : Int) (ks : Kns), runR (plRn n (gZ g s stp ks)) = runS (rnS g n s ks)
  | 0, s, stp, ks => by
    show runR (bif decide ((ks.length : Int) > 4096) then .inr 6 else .inl (gZ g s stp ks)) = runS (bif decide ((ks.length : Int) > 4096) then .inr 6 else .inl (s, ks))
    cases decide ((ks.length : Int) > 4096) <;> rfl
  | n + 1, s, stp, ks => by
    show runR (bif decide ((ks.length : Int) > 4096) then .inr 6 else bif !stillB (stG (gZ g s stp ks).1) then match tkF (ctS g s) (msT s, osT s, ks) with
      | .inl r => plRn n (gZ g (nxS s r) 17 r.2.2)
      | .inr e => .inr e
      else .inl (gZ g s stp ks)) = runS (bif decide ((ks.length : Int) > 4096) then .inr 6 else bif !stillB s then match tkF (ctS g s) (msT s, osT s, ks) with
      | .inl r => rnS g n (nxS s r) r.2.2
      | .inr e => .inr e
      else .inl (s, ks))
    cases decide ((ks.length : Int) > 4096) with
    | true => rfl
    | false =>
      show runR (bif !stillB s then match tkF (ctS g s) (msT s, osT s, ks) with
        | .inl r => plRn n (gZ g (nxS s r) 17 r.2.2)
        | .inr e => .inr e
        else .inl (gZ g s stp ks)) = runS (bif !stillB s then match tkF (ctS g s) (msT s, osT s, ks) with
        | .inl r => rnS g n (nxS s r) r.2.2
        | .inr e => .inr e
        else .inl (s, ks))
      cases stillB s with
      | true => rfl
      | false =>
        simp only [Bool.not_false, cond_true]
        cases tkF (ctS g s) (msT s, osT s, ks) with
        | inr e => rfl
        | inl r => exact plRn_rnS n (nxS s r) 17 r.2.2
theorem PlayV_eq {g : TCT cGr} {s : TCT cSt} {n : Int} : PlayV g s n = bif staE g s != 0 then errT (staE g s) else bif decide (n < 0) || decide (n > 4000) then errT 3 else runS (rnS g (Int.toNat n) s []) := by
  unfold PlayV
  rw [show runR (plRn (Int.toNat n) (gT g s)) = runS (rnS g (Int.toNat n) s []) from plRn_rnS (Int.toNat n) s 0 []]
end St
end V
end Go.Proofs.YtkiaifmbbnnliaaGreat
