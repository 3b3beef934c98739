import Derived.Test.YtkiaifmbbnnliaaGreatDm
namespace Go.Proofs.YtkiaifmbbnnliaaGreat
open Go.RowKit
namespace V
namespace St
def bwT {β : Type} (n : Int) (w : TCT cBw) (bad go : Tree β) : Tree β := bif decide (w.1 < 0) then bad else bif decide (w.1 ≥ n) then bad else bif u_ck w.2.1.1 w.2.1.2.1 != 0 then bad else bif w.2.1.1 == 0 && (w.2.1.2.1 == 0 && true) then bad else bif decide (w.2.2.1 < 1) then bad else bif decide (w.2.2.1 > 2097152) then bad else bif decide (w.2.2.2.1 < 0) then bad else bif decide (w.2.2.2.1 > 4) then bad else go
def bwB (n : Int) (w : TCT cBw) : Bool := decide (w.1 < 0) || (decide (w.1 ≥ n) || (!fpt w.2.1.1 w.2.1.2.1 || ((w.2.1.1 == 0 && (w.2.1.2.1 == 0 && true)) || (decide (w.2.2.1 < 1) || (decide (w.2.2.1 > 2097152) || (decide (w.2.2.2.1 < 0) || decide (w.2.2.2.1 > 4)))))))
theorem bwT_eq {β : Type} {n : Int} {w : TCT cBw} {bad go : Tree β} : bwT n w bad go = bif bwB n w then bad else go := by
  unfold bwT bwB
  rw [u_ck_ne]
  cases decide (w.1 < 0) <;> cases decide (w.1 ≥ n) <;> cases fpt w.2.1.1 w.2.1.2.1 <;> cases w.2.1.1 == 0 && (w.2.1.2.1 == 0 && true) <;> cases decide (w.2.2.1 < 1) <;> cases decide (w.2.2.1 > 2097152) <;> cases decide (w.2.2.2.1 < 0) <;> cases decide (w.2.2.2.1 > 4) <;> rfl
structure BwOk (n : Int) (w : TCT cBw) : Prop where
  b : 0 ≤ w.1 ∧ w.1 < n
  f : fpt w.2.1.1 w.2.1.2.1 = true
  z : (w.2.1.1 == 0 && (w.2.1.2.1 == 0 && true)) = false
  p : 1 ≤ w.2.2.1 ∧ w.2.2.1 ≤ 2097152
  k : 0 ≤ w.2.2.2.1 ∧ w.2.2.2.1 ≤ 4
theorem bw_ok {n : Int} {w : TCT cBw} (h : bwB n w = false) : BwOk n w := by
  unfold bwB at h
  rw [Bool.or_eq_false_iff, Bool.or_eq_false_iff, Bool.or_eq_false_iff, Bool.or_eq_false_iff, Bool.or_eq_false_iff, Bool.or_eq_false_iff, Bool.or_eq_false_iff] at h
  obtain ⟨h1, h2, h3, h4, h5, h6, h7, h8⟩ := h
  have a1 := of_decide_eq_false h1
  have a2 := of_decide_eq_false h2
  have a5 := of_decide_eq_false h5
  have a6 := of_decide_eq_false h6
  have a7 := of_decide_eq_false h7
  have a8 := of_decide_eq_false h8
  exact ⟨⟨Int.not_lt.1 a1, Int.not_le.1 a2⟩, by simpa using h3, h4, ⟨Int.not_lt.1 a5, Int.not_lt.1 a6⟩, ⟨Int.not_lt.1 a7, Int.not_lt.1 a8⟩⟩
def twP (w : TCT cBw) : TCT cPt := ((TwR w.2.1.1 w.2.1.2.1 0 0 w.2.2.1).1.1, (TwR w.2.1.1 w.2.1.2.1 0 0 w.2.2.1).1.2, ())
def twE (w : TCT cBw) : Int := (TwR w.2.1.1 w.2.1.2.1 0 0 w.2.2.1).2
def mSet (ms : Mots) (b : Int) (v : TCT cPt) : Mots := setA ms (Int.toNat b) ((getM ms (Int.toNat b)).1, (v.1, v.2.1, ()), (getM ms (Int.toNat b)).2.2.1, ())
def mX (ms : Mots) (b d : Int) : Mots := setA ms (Int.toNat b) ((getM ms (Int.toNat b)).1, (W64 ((getM ms (Int.toNat b)).2.1.1 + d), (getM ms (Int.toNat b)).2.1.2.1, ()), (getM ms (Int.toNat b)).2.2.1, ())
def mY (ms : Mots) (b d : Int) : Mots := setA ms (Int.toNat b) ((getM ms (Int.toNat b)).1, ((getM ms (Int.toNat b)).2.1.1, W64 ((getM ms (Int.toNat b)).2.1.2.1 + d), ()), (getM ms (Int.toNat b)).2.2.1, ())
def fwD (m k : Int) : Int := W64 (Int.tdiv (W64 (m * folV k)) 1000)
def chB {β : Type} (ms : Mots) (b : Int) (k : Tree β) : Tree β := bif decide (Int.toNat b < ms.length) then k else .fail
theorem chB_ok {β : Type} {ms : Mots} {b : Int} {k : Tree β} {n : Nat} (h : 0 ≤ b ∧ b < (n : Int)) (hl : ms.length = n) : chB ms b k = k := by
  unfold chB
  rw [decide_eq_true (show Int.toNat b < ms.length by omega)]; rfl
theorem mX_len {ms : Mots} {b d : Int} : (mX ms b d).length = ms.length := setA_len _ _ _
theorem mY_len {ms : Mots} {b d : Int} : (mY ms b d).length = ms.length := setA_len _ _ _
theorem mSet_len {ms : Mots} {b : Int} {v : TCT cPt} : (mSet ms b v).length = ms.length := setA_len _ _ _
def okSk (ms : Mots) (os : List Bool) (b fl : Int) (ks : Kns) : TkR := ((ms, os, b, fl, 0, ()), ks, 0, ())
def skM (ms : Mots) (w : TCT cBw) : Mots := mY (mX ms w.1 (fwD (twP w).1 w.2.2.2.1)) w.1 (fwD (twP w).2.1 w.2.2.2.1)
def bigM (ms : Mots) (b : Int) : Bool := bigB (getM ms (Int.toNat b)).2.1.1 || bigB (getM ms (Int.toNat b)).2.1.2.1
def skF (os : List Bool) (w : TCT cBw) : (Mots × Kns) ⊕ Int → TkR
  | .inr e => errT e
  | .inl (ms, ks) => bif decide ((ks.length : Int) > 0) then bif bigM (skM ms w) w.1 then errT 4 else okSk (skM ms w) os w.1 0 ks else okSk ms os w.1 0 ks
def skG (g : TCT cGr) (s : TCT cSt) (w : TCT cBw) : TkR := bif w.2.2.2.1 == 4 then okSk (mSet (msT s) w.1 (twP w)) (osT s) w.1 8 [] else skF (osT s) w (seF (ballsG g) g.2.2.1 0 0 w.1 0 (ballsG g).length (mSet (msT s) w.1 (twP w), osT s, []))
def skV (g : TCT cGr) (s : TCT cSt) (w : TCT cBw) : TkR := bif staE g s != 0 then errT (staE g s) else bif bwB ((ballsG g).length : Int) w then errT 2 else bif !stillB s || getA (osT s) (Int.toNat w.1) (dflt .b) then errT 10 else skG g s w
abbrev s_Strike4 : PureT := spec [cGr, cSt, cBw] [cSt, .sl cKn, cI] (fun x => decide ((x.1.1.1.size : Int) ≤ maxK .i64)) (fun x => etaR (skV x.1 x.2.1 x.2.2.1))
def gS (g : TCT cGr) (s : TCT cSt) (ms : Mots) (b : Int) : GB := ((g.1.1, g.1.2.1, g.1.2.2.1, g.1.2.2.2.1, g.1.2.2.2.2.1, g.1.2.2.2.2.2.1.1.1, g.1.2.2.2.2.2.1.1.2.1, g.1.2.2.2.2.2.1.2.1, g.1.2.2.2.2.2.2.1, g.1.2.2.2.2.2.2.2.1, g.1.2.2.2.2.2.2.2.2.1, g.2.1, g.2.2.1.1, g.2.2.1.2.1, postsV g.1, ms, ([] ++ s.2.1), b, 0, 0, 0, ((), (), ()), ()), ([], ()), ())
def lfT (r : TkR) : TTR := .leaf r
def k2_sk (os : List Bool) (w : TCT cBw) (ks : Kns) (ms : Mots) : TTR := chB ms w.1 (bif bigB (getM ms (Int.toNat w.1)).2.1.1 then lfT (errT 4) else chB ms w.1 (bif bigB (getM ms (Int.toNat w.1)).2.1.2.1 then lfT (errT 4) else lfT (okSk ms os w.1 0 ks)))
def k1_sk (os : List Bool) (w : TCT cBw) (ms : Mots) (ks : Kns) : TTR := bif decide ((ks.length : Int) > 0) then chB ms w.1 (chB ms w.1 (chB (mX ms w.1 (fwD (twP w).1 w.2.2.2.1)) w.1 (chB (mX ms w.1 (fwD (twP w).1 w.2.2.2.1)) w.1 (k2_sk os w ks (skM ms w))))) else lfT (okSk ms os w.1 0 ks)
def k0_sk (Y : YK) (g : TCT cGr) (s : TCT cSt) (w : TCT cBw) : TTR := bif w.2.2.2.1 == 4 then
    bif twE w != 0 then bif twE w != 0 then lfT (errT (twE w)) else lfT (okSk (msT s) (osT s) w.1 8 []) else inN ([] ++ s.1 : Mots).length w.1 (chB ([] ++ s.1) w.1 (lfT (okSk (mSet ([] ++ s.1) w.1 (twP w)) ([] ++ s.2.1) w.1 8 [])))
  else bif twE w != 0 then bif twE w != 0 then lfT (errT (twE w)) else lfT (okSk (msT s) (osT s) w.1 0 []) else inN ([] ++ s.1 : Mots).length w.1 (chB ([] ++ s.1) w.1 (thY (Y (gS g s (mSet ([] ++ s.1) w.1 (twP w)) w.1)) zM (fun e => bif e != 0 then lfT (errT e) else .fail) fun r => k1_sk ([] ++ s.2.1) w r.1 r.2))
def T_sk (Y : YK) (g : TCT cGr) (s : TCT cSt) (w : TCT cBw) : TTR := szT g.1 (bif staE g s != 0 then lfT (errT (staE g s)) else bwT ((ballsG g).length : Int) w (lfT (errT 2)) (bif !stillB s then lfT (errT 10) else inN (osT s).length w.1 (bif getA (osT s) (Int.toNat w.1) (dflt .b) then lfT (errT 10) else szT g.1 (neT (msT s) (acT (msT s) 48 (neT (osT s) (acT (osT s) 1 (k0_sk Y g s w))))))))
theorem T_sk_eq (Y : YK) (x : TCTs [cGr, cSt, cBw]) : evFn (X_sk Y) 8 (.fn 16) (encAs [cGr, cSt, cBw] x) noHeap 0 (outK Tryz.prog [cSt, .sl cKn, cI]) = T_sk Y x.1 x.2.1 x.2.2.1 := by kernel_rfl
theorem X_sk_ok : CtxOk (X_sk Y_se) := ctxS_ok mixed puSk (fns_cons is_sStrike (fns_cons is_sStrike2 (fns_cons is_newGame (fns_cons is_sTry (fns_cons is_sTry1 (fns_cons is_must (fns_cons is_clMot (fns_cons is_clBool fns_nil)))))))) no_loops4 (fun p hp => by
  rw [List.mem_singleton] at hp; subst hp; exact ⟨is_gsettle.plain, by rw [spYK, finM_eq]; exact sp_se_s⟩)
end St
end V
end Go.Proofs.YtkiaifmbbnnliaaGreat
