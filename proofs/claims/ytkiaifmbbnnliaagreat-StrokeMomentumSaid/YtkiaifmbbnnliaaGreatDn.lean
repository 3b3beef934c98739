import Derived.Test.YtkiaifmbbnnliaaGreatDm
namespace Go.Proofs.YtkiaifmbbnnliaaGreat
open Go.RowKit
namespace V
namespace St
def bwT {β : Type} (n : Int) (w : TCT cBw) (bad go : Tree β) : Tree β := bif decide (w.1 < 0) then bad else bif decide (w.1 ≥ n) then bad else bif Q1 w.2.1.1 w.2.1.2.1 != 0 then bad else bif w.2.1.1 == 0 && (w.2.1.2.1 == 0 && true) then bad else bif decide (w.2.2.1 < 1) then bad else bif decide (w.2.2.1 > 2097152) then bad else bif decide (w.2.2.2.1 < 0) then bad else bif decide (w.2.2.2.1 > 4) then bad else go
def bwB (n : Int) (w : TCT cBw) : Bool := decide (w.1 < 0) || (decide (w.1 ≥ n) || (!fpt w.2.1.1 w.2.1.2.1 || ((w.2.1.1 == 0 && (w.2.1.2.1 == 0 && true)) || (decide (w.2.2.1 < 1) || (decide (w.2.2.1 > 2097152) || (decide (w.2.2.2.1 < 0) || decide (w.2.2.2.1 > 4)))))))
theorem B0k {β : Type} {n : Int} {w : TCT cBw} {bad go : Tree β} : bwT n w bad go = bif bwB n w then bad else go := by
 unfold bwT bwB
 rw [Abz]
 cases decide (w.1 < 0) <;> cases decide (w.1 ≥ n) <;> cases fpt w.2.1.1 w.2.1.2.1 <;> cases w.2.1.1 == 0 && (w.2.1.2.1 == 0 && true) <;> cases decide (w.2.2.1 < 1) <;> cases decide (w.2.2.1 > 2097152) <;> cases decide (w.2.2.2.1 < 0) <;> cases decide (w.2.2.2.1 > 4) <;> rfl
structure BwOk (n : Int) (w : TCT cBw) : Prop where
 b : 0 ≤ w.1 ∧ w.1 < n
 f : fpt w.2.1.1 w.2.1.2.1 = true
 z : (w.2.1.1 == 0 && (w.2.1.2.1 == 0 && true)) = false
 p : 1 ≤ w.2.2.1 ∧ w.2.2.1 ≤ 2097152
 k : 0 ≤ w.2.2.2.1 ∧ w.2.2.2.1 ≤ 4
theorem Am4 {n : Int} {w : TCT cBw} (h : bwB n w = false) : BwOk n w := by
 unfold bwB at h
 rw [Bool.or_eq_false_iff, Bool.or_eq_false_iff, Bool.or_eq_false_iff, Bool.or_eq_false_iff, Bool.or_eq_false_iff, Bool.or_eq_false_iff, Bool.or_eq_false_iff] at h
 obtain ⟨h1, h2, h3, h4, h5, h6, h7, h8⟩ := h
 have a1 := of_decide_eq_false h1
 have a2 := of_decide_eq_false h2
 have a5 := of_decide_eq_false h5
 have a6 := of_decide_eq_false h6
 have a7 := of_decide_eq_false h7
 have a8 := of_decide_eq_false h8
 exact ⟨⟨Int.not_lt.1 a1, Int.not_le.1 a2⟩, by simpa using h3, h4, ⟨Int.not_lt.1 a5, Int.not_lt.1 a6⟩, ⟨Int.not_lt.1 a7, Int.not_lt.1 a8⟩⟩
def twP (w : TCT cBw) : TCT cPt := ((TwR w.2.1.1 w.2.1.2.1 0 0 w.2.2.1).1.1, (TwR w.2.1.1 w.2.1.2.1 0 0 w.2.2.1).1.2, ())
def twE (w : TCT cBw) : Int := (TwR w.2.1.1 w.2.1.2.1 0 0 w.2.2.1).2
def Ov (ms : Ae) (b : Int) (v : TCT cPt) : Ae := B1 ms (Int.toNat b) ((Ag ms (Int.toNat b)).1, (v.1, v.2.1, ()), (Ag ms (Int.toNat b)).2.2.1, ())
def mX (ms : Ae) (b d : Int) : Ae := B1 ms (Int.toNat b) ((Ag ms (Int.toNat b)).1, (W64 ((Ag ms (Int.toNat b)).2.1.1 + d), (Ag ms (Int.toNat b)).2.1.2.1, ()), (Ag ms (Int.toNat b)).2.2.1, ())
def mY (ms : Ae) (b d : Int) : Ae := B1 ms (Int.toNat b) ((Ag ms (Int.toNat b)).1, ((Ag ms (Int.toNat b)).2.1.1, W64 ((Ag ms (Int.toNat b)).2.1.2.1 + d), ()), (Ag ms (Int.toNat b)).2.2.1, ())
def fwD (m k : Int) : Int := W64 (Int.tdiv (W64 (m * Rk k)) 1000)
def chB {β : Type} (ms : Ae) (b : Int) (k : Tree β) : Tree β := bif decide (Int.toNat b < ms.length) then k else .fail
theorem Ly {β : Type} {ms : Ae} {b : Int} {k : Tree β} {n : Nat} (h : 0 ≤ b ∧ b < (n : Int)) (hl : ms.length = n) : chB ms b k = k := by
 unfold chB
 rw [decide_eq_true (show Int.toNat b < ms.length by omega)]; rfl
theorem A9n {ms : Ae} {b d : Int} : (mX ms b d).length = ms.length := Be _ _ _
theorem B0l {ms : Ae} {b d : Int} : (mY ms b d).length = ms.length := Be _ _ _
theorem A5e {ms : Ae} {b : Int} {v : TCT cPt} : (Ov ms b v).length = ms.length := Be _ _ _
def A5f (ms : Ae) (os : List Bool) (b fl : Int) (ks : Kns) : TkR := ((ms, os, b, fl, 0, ()), ks, 0, ())
def skM (ms : Ae) (w : TCT cBw) : Ae := mY (mX ms w.1 (fwD (twP w).1 w.2.2.2.1)) w.1 (fwD (twP w).2.1 w.2.2.2.1)
def Afh (ms : Ae) (b : Int) : Bool := Yd (Ag ms (Int.toNat b)).2.1.1 || Yd (Ag ms (Int.toNat b)).2.1.2.1
def skF (os : List Bool) (w : TCT cBw) : (Ae × Kns) ⊕ Int → TkR
 | .inr e => K3 e
 | .inl (ms, ks) => bif decide ((ks.length : Int) > 0) then bif Afh (skM ms w) w.1 then K3 4 else A5f (skM ms w) os w.1 0 ks else A5f ms os w.1 0 ks
def skG (g : TCT cGr) (s : TCT cSt) (w : TCT cBw) : TkR := bif w.2.2.2.1 == 4 then A5f (Ov (msT s) w.1 (twP w)) (osT s) w.1 8 [] else skF (osT s) w (seF (A4 g) g.2.2.1 0 0 w.1 0 (A4 g).length (Ov (msT s) w.1 (twP w), osT s, []))
def skV (g : TCT cGr) (s : TCT cSt) (w : TCT cBw) : TkR := bif Dy g s != 0 then K3 (Dy g s) else bif bwB ((A4 g).length : Int) w then K3 2 else bif !Gn s || Aq (osT s) (Int.toNat w.1) (Ao .b) then K3 10 else skG g s w
abbrev Afi : PureT := B4 [cGr, cSt, cBw] [cSt, .sl cKn, cI] (fun x => decide ((x.1.1.1.size : Int) ≤ As .i64)) (fun x => A1j (skV x.1 x.2.1 x.2.2.1))
def gS (g : TCT cGr) (s : TCT cSt) (ms : Ae) (b : Int) : GB := ((g.1.1, g.1.2.1, g.1.2.2.1, g.1.2.2.2.1, g.1.2.2.2.2.1, g.1.2.2.2.2.2.1.1.1, g.1.2.2.2.2.2.1.1.2.1, g.1.2.2.2.2.2.1.2.1, g.1.2.2.2.2.2.2.1, g.1.2.2.2.2.2.2.2.1, g.1.2.2.2.2.2.2.2.2.1, g.2.1, g.2.2.1.1, g.2.2.1.2.1, Ho g.1, ms, ([] ++ s.2.1), b, 0, 0, 0, ((), (), ()), ()), ([], ()), ())
def lfT (r : TkR) : TTR := .leaf r
def Axe (os : List Bool) (w : TCT cBw) (ks : Kns) (ms : Ae) : TTR := chB ms w.1 (bif Yd (Ag ms (Int.toNat w.1)).2.1.1 then lfT (K3 4) else chB ms w.1 (bif Yd (Ag ms (Int.toNat w.1)).2.1.2.1 then lfT (K3 4) else lfT (A5f ms os w.1 0 ks)))
def Am5 (os : List Bool) (w : TCT cBw) (ms : Ae) (ks : Kns) : TTR := bif decide ((ks.length : Int) > 0) then chB ms w.1 (chB ms w.1 (chB (mX ms w.1 (fwD (twP w).1 w.2.2.2.1)) w.1 (chB (mX ms w.1 (fwD (twP w).1 w.2.2.2.1)) w.1 (Axe os w ks (skM ms w))))) else lfT (A5f ms os w.1 0 ks)
def Am6 (Y : YK) (g : TCT cGr) (s : TCT cSt) (w : TCT cBw) : TTR := bif w.2.2.2.1 == 4 then
  bif twE w != 0 then bif twE w != 0 then lfT (K3 (twE w)) else lfT (A5f (msT s) (osT s) w.1 8 []) else inN ([] ++ s.1 : Ae).length w.1 (chB ([] ++ s.1) w.1 (lfT (A5f (Ov ([] ++ s.1) w.1 (twP w)) ([] ++ s.2.1) w.1 8 [])))
 else bif twE w != 0 then bif twE w != 0 then lfT (K3 (twE w)) else lfT (A5f (msT s) (osT s) w.1 0 []) else inN ([] ++ s.1 : Ae).length w.1 (chB ([] ++ s.1) w.1 (thY (Y (gS g s (Ov ([] ++ s.1) w.1 (twP w)) w.1)) zM (fun e => bif e != 0 then lfT (K3 e) else .fail) fun r => Am5 ([] ++ s.2.1) w r.1 r.2))
def Atc (Y : YK) (g : TCT cGr) (s : TCT cSt) (w : TCT cBw) : TTR := szT g.1 (bif Dy g s != 0 then lfT (K3 (Dy g s)) else bwT ((A4 g).length : Int) w (lfT (K3 2)) (bif !Gn s then lfT (K3 10) else inN (osT s).length w.1 (bif Aq (osT s) (Int.toNat w.1) (Ao .b) then lfT (K3 10) else szT g.1 (neT (msT s) (acT (msT s) 48 (neT (osT s) (acT (osT s) 1 (Am6 Y g s w))))))))
theorem Atd (Y : YK) (x : TCTs [cGr, cSt, cBw]) : Ch (B5x Y) 8 (.fn 16) (Co [cGr, cSt, cBw] x) Bl 0 (Hn Tryz.prog [cSt, .sl cKn, cI]) = Atc Y x.1 x.2.1 x.2.2.1 := by kernel_rfl
theorem Ate : CtxOk (B5x Oq) := Fj Ab B9j (fns_cons is_bq (fns_cons is_bv (fns_cons is_bh (fns_cons is_bi (fns_cons is_bj (fns_cons is_a8 (fns_cons is_bk (fns_cons is_bl A2)))))))) K2 (fun p hp => by
 rw [List.mem_singleton] at hp; subst hp; exact ⟨is_bb.plain, by rw [Afd, A1g]; exact Asf⟩)
end St
end V
end Go.Proofs.YtkiaifmbbnnliaaGreat
