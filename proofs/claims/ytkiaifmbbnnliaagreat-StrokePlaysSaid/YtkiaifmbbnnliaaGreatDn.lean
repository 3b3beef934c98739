import Derived.Test.YtkiaifmbbnnliaaGreatDm
namespace Go.Proofs.YtkiaifmbbnnliaaGreat
open Go.RowKit
namespace V
namespace St
def bwB (n : Int) (w : TCT cBw) : Bool := decide (w.1 < 0) || (decide (w.1 ≥ n) || (!fpt w.2.1.1 w.2.1.2.1 || ((w.2.1.1 == 0 && (w.2.1.2.1 == 0 && true)) || (decide (w.2.2.1 < 1) || (decide (w.2.2.1 > 2097152) || (decide (w.2.2.2.1 < 0) || decide (w.2.2.2.1 > 4)))))))
structure BwOk (n : Int) (w : TCT cBw) : Prop where
 b : 0 ≤ w.1 ∧ w.1 < n
 f : fpt w.2.1.1 w.2.1.2.1 = true
 z : (w.2.1.1 == 0 && (w.2.1.2.1 == 0 && true)) = false
 p : 1 ≤ w.2.2.1 ∧ w.2.2.1 ≤ 2097152
 k : 0 ≤ w.2.2.2.1 ∧ w.2.2.2.1 ≤ 4
theorem Bdz {n : Int} {w : TCT cBw} (h : bwB n w = false) : BwOk n w := by
 unfold bwB at h
 rw [Bool.or_eq_false_iff, Bool.or_eq_false_iff, Bool.or_eq_false_iff, Bool.or_eq_false_iff, Bool.or_eq_false_iff, Bool.or_eq_false_iff, Bool.or_eq_false_iff] at h
 obtain ⟨h1, h2, h3, h4, h5, h6, h7, h8⟩ := h
 have a1 := of_decide_eq_false h1
 have a2 := of_decide_eq_false h2
 have a5 := of_decide_eq_false h5
 have a6 := of_decide_eq_false h6
 have a7 := of_decide_eq_false h7
 have a8 := of_decide_eq_false h8
 exact ⟨⟨Int.not_lt.1 a1, Int.not_le.1 a2⟩, by simpa using h3, h4, ⟨Int.not_lt.1 a5, Int.not_lt.1 a6⟩, ⟨Int.not_lt.1 a7, Int.not_lt.1 a8⟩⟩
def twP (w : TCT cBw) : TCT cPt := ((TwR w.2.1.1 w.2.1.2.1 0 0 w.2.2.1).1.1, (TwR w.2.1.1 w.2.1.2.1 0 0 w.2.2.1).1.2, ())
def Wg (ms : Af) (b : Int) (v : TCT cPt) : Af := B5 ms (Int.toNat b) ((Ai ms (Int.toNat b)).1, (v.1, v.2.1, ()), (Ai ms (Int.toNat b)).2.2.1, ())
def mX (ms : Af) (b d : Int) : Af := B5 ms (Int.toNat b) ((Ai ms (Int.toNat b)).1, (W64 ((Ai ms (Int.toNat b)).2.1.1 + d), (Ai ms (Int.toNat b)).2.1.2.1, ()), (Ai ms (Int.toNat b)).2.2.1, ())
def mY (ms : Af) (b d : Int) : Af := B5 ms (Int.toNat b) ((Ai ms (Int.toNat b)).1, ((Ai ms (Int.toNat b)).2.1.1, W64 ((Ai ms (Int.toNat b)).2.1.2.1 + d), ()), (Ai ms (Int.toNat b)).2.2.1, ())
def fwD (m k : Int) : Int := W64 (Int.tdiv (W64 (m * Wf k)) 1000)
def chB {β : Type} (ms : Af) (b : Int) (k : Tree β) : Tree β := bif decide (Int.toNat b < ms.length) then k else .fail
theorem B7c {β : Type} {ms : Af} {b : Int} {k : Tree β} {n : Nat} (h : 0 ≤ b ∧ b < (n : Int)) (hl : ms.length = n) : chB ms b k = k := by
 unfold chB
 rw [decide_eq_true (show Int.toNat b < ms.length by omega)]; rfl
theorem Abp {ms : Af} {b d : Int} : (mX ms b d).length = ms.length := Br _ _ _
theorem B7d {ms : Af} {b d : Int} : (mY ms b d).length = ms.length := Br _ _ _
theorem A6t {ms : Af} {b : Int} {v : TCT cPt} : (Wg ms b v).length = ms.length := Br _ _ _
def Aiy (ms : Af) (os : List Bool) (b fl : Int) (ks : Kns) : TkR := ((ms, os, b, fl, 0, ()), ks, 0, ())
def skM (ms : Af) (w : TCT cBw) : Af := mY (mX ms w.1 (fwD (twP w).1 w.2.2.2.1)) w.1 (fwD (twP w).2.1 w.2.2.2.1)
def B7e (ms : Af) (b : Int) : Bool := Ayb (Ai ms (Int.toNat b)).2.1.1 || Ayb (Ai ms (Int.toNat b)).2.1.2.1
def skF (os : List Bool) (w : TCT cBw) : (Af × Kns) ⊕ Int → TkR
 | .inr e => Gt e
 | .inl (ms, ks) => bif decide ((ks.length : Int) > 0) then bif B7e (skM ms w) w.1 then Gt 4 else Aiy (skM ms w) os w.1 0 ks else Aiy ms os w.1 0 ks
def skG (g : TCT cGr) (s : TCT cSt) (w : TCT cBw) : TkR := bif w.2.2.2.1 == 4 then Aiy (Wg (msT s) w.1 (twP w)) (osT s) w.1 8 [] else skF (osT s) w (seF (A3 g) g.2.2.1 0 0 w.1 0 (A3 g).length (Wg (msT s) w.1 (twP w), osT s, []))
def skV (g : TCT cGr) (s : TCT cSt) (w : TCT cBw) : TkR := bif Ee g s != 0 then Gt (Ee g s) else bif bwB ((A3 g).length : Int) w then Gt 2 else bif !C0 s || At (osT s) (Int.toNat w.1) (Aq .b) then Gt 10 else skG g s w
abbrev Aiz : PureT := B9 [cGr, cSt, cBw] [cSt, .sl cKn, cI] (fun x => decide ((x.1.1.1.size : Int) ≤ As .i64)) (fun x => Rm (skV x.1 x.2.1 x.2.2.1))
def lfT (r : TkR) : TTR := .leaf r
end St
end V
end Go.Proofs.YtkiaifmbbnnliaaGreat
