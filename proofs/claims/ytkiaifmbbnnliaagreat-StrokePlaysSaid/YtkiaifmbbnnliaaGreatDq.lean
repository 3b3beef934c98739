import Derived.Test.YtkiaifmbbnnliaaGreatDp
namespace Go.Proofs.YtkiaifmbbnnliaaGreat
open Go.RowKit
namespace V
namespace St
theorem B7o {g : TCT cGr} {s : TCT cSt} (h : StaOk g s) : SM (msT s) := fun j => by
 by_cases hj : j < (msT s).length
 ·have := We (d := Aq Aj) (msT s) 0 h.ok j hj
  rw [Nat.zero_add] at this
  unfold okS okO Px Qd at this
  simp only [Bool.and_eq_true] at this
  exact this.1.2.2.1
 ·unfold Ai
  rw [Ji, List.getD_eq_getElem?_getD, List.getElem?_eq_none (Nat.le_of_not_lt hj)]; rfl
theorem Aj0 {x y : Int} (hx : -2097152 ≤ x ∧ x ≤ 2097152) (hy : -2097152 ≤ y ∧ y ≤ 2097152) : Ay x y = true := by
 unfold Ay Az
 rw [decide_eq_false (show ¬ x < -16777216 by omega), decide_eq_false (show ¬ 16777216 < x by omega), decide_eq_false (show ¬ y < -16777216 by omega), decide_eq_false (show ¬ 16777216 < y by omega)]
 rfl
theorem Ayf {g : TCT cGr} {s : TCT cSt} {w : TCT cBw} {n : Int} (h : StaOk g s) (hb : BwOk n w) : SM (Wg (msT s) w.1 (twP w)) := by
 have tw := B35 hb.f hb.z hb.p
 exact SM.set (B7o h) (Aj0 tw.2.1 tw.2.2)
abbrev YR : Type := Gj.T → Option (MK ⊕ Int)
abbrev B37 : List (Nat × PureT) := (64, Aqv) :: (62, N6) :: (100, Nh) :: (65, Mc) :: Ay9
theorem Be0 : By Tryz.prog B37 := A0 is_bD.plain B7k (A0 is_b8.plain A9q (A0 is_aa.plain B43 (A0 is_Strong.plain A83 B78)))
noncomputable def Bhy : List (Nat × Func) := [(17, Tryz.f17), (61, Tryz.f61), (20, Tryz.f20)]
noncomputable def Be1 (Y : YR) : Ctx := Kj Tryz.prog B37 Bhy [] [(63, Abl Y)]
theorem Ayg : CtxOk (Be1 H0) := D8 Ab Be0 (fns_cons is_bB (fns_cons is_bC (fns_cons is_by A2))) G5 (fun p hp => by
 rw [List.mem_singleton] at hp; subst hp; exact ⟨is_bz.plain, Aqd⟩)
def inC {β : Type} (ms : Af) (b : Int) (k : Tree β) : Tree β := inN ms.length b (chB ms b k)
theorem Ox {β : Type} {ms : Af} {b : Int} {k : Tree β} {n : Nat} (h : 0 ≤ b ∧ b < (n : Int)) (hl : ms.length = n) : inC ms b k = k := by
 unfold inC
 rw [Ci (by rw [hl]; exact h), B7c h hl]
def B38 (os : List Bool) (w : TCT cBw) (ks : Kns) (ms : Af) : TTR := inC ms w.1 (bif !Ay (Ai ms (Int.toNat w.1)).2.1.1 (Ai ms (Int.toNat w.1)).2.1.2.1 then lfT (Gt 4) else lfT (Aiy ms os w.1 0 ks))
def Aqz (os : List Bool) (w : TCT cBw) (ms : Af) (ks : Kns) : TTR := bif decide ((ks.length : Int) > 0) then inC ms w.1 (bif decide (0 ≤ w.2.2.2.1 ∧ w.2.2.2.1 ≤ 4) then inC ms w.1 (inC (mX ms w.1 (fwD (twP w).1 w.2.2.2.1)) w.1 (bif decide (0 ≤ w.2.2.2.1 ∧ w.2.2.2.1 ≤ 4) then inC (mX ms w.1 (fwD (twP w).1 w.2.2.2.1)) w.1 (B38 os w ks (skM ms w)) else .fail)) else .fail) else lfT (Aiy ms os w.1 0 ks)
def aRk (g : TCT cGr) (s : TCT cSt) (w : TCT cBw) : Gj.T := ((g, (Wg ([] ++ s.1) w.1 (twP w), ([] ++ s.2.1), w.1, 0, 0, ()), 0, 0, ()), ())
def Ar0 (Y : YR) (g : TCT cGr) (s : TCT cSt) (w : TCT cBw) : TTR := bif w.2.2.2.1 == 4 then inC ([] ++ s.1) w.1 (lfT (Aiy (Wg ([] ++ s.1) w.1 (twP w)) ([] ++ s.2.1) w.1 8 []))
 else inC ([] ++ s.1) w.1 (thL (Y (aRk g s w)) ([], []) (fun e => lfT (Gt e)) (fun r => Aqz ([] ++ s.2.1) w r.1 r.2) esR)
def Ayh (Y : YR) (g : TCT cGr) (s : TCT cSt) (w : TCT cBw) : TTR := szT g.1 (bif Ee g s != 0 then szT g.1 (lfT (Gt (Ee g s))) else bwR ((A3 g).length : Int) w (lfT (Gt 2)) (bif !C0 s then lfT (Gt 10) else inN (osT s).length w.1 (bif At (osT s) (Int.toNat w.1) (Aq .b) then lfT (Gt 10) else acT (msT s) 48 (acT (osT s) 1 (Ar0 Y g s w)))))
theorem Ayi (Y : YR) (x : TCTs [cGr, cSt, cBw]) : C4 (Be1 Y) 8 (.fn 17) (Ce [cGr, cSt, cBw] x) Be 0 (Ft Tryz.prog [cSt, .sl cKn, cI]) = Ayh Y x.1 x.2.1 x.2.2.1 := by kernel_rfl
theorem B7p {g : TCT cGr} {s : TCT cSt} {w : TCT cBw} (h : StaOk g s) : H0 (aRk g s w) = some (seF (A3 g) g.2.2.1 0 0 w.1 0 (A3 g).length (Wg (msT s) w.1 (twP w), osT s, [])) := by
 unfold H0
 have hm : (Wg ([] ++ s.1) w.1 (twP w)).length = (A3 g).length := by
  rw [A6t, List.nil_append]; exact h.m
 have ho : ([] ++ s.2.1 : List Bool).length = (A3 g).length := by rw [List.nil_append]; exact h.o
 rw [show A6p (aRk g s w).1.1 (aRk g s w).1.2.1 = true by
  unfold A6p
  simp only [Bool.and_eq_true, decide_eq_true_eq]
  exact ⟨hm, ho, h.n8⟩]
 rfl
theorem Ar1 {os : List Bool} {w : TCT cBw} {ms : Af} {ks : Kns} {n : Nat} (hb : BwOk (n : Int) w) (hm : ms.length = n) (hs : SM ms) : (Aqz os w ms ks).sat (fun y => y = Rm (skF os w (.inl (ms, ks)))) := by
 unfold Aqz skF
 simp only
 cases decide ((ks.length : Int) > 0) with
 | false => exact rfl
 | true =>
  simp only [cond_true]
  have hk : decide (0 ≤ w.2.2.2.1 ∧ w.2.2.2.1 ≤ 4) = true := decide_eq_true hb.k
  rw [Ox hb.b hm, hk, cond_true, Ox hb.b hm, Ox hb.b (Abp.trans hm), cond_true, Ox hb.b (Abp.trans hm)]
  unfold B38
  have hl : (skM ms w).length = n := by unfold skM; rw [B7d, Abp]; exact hm
  rw [Ox hb.b hl, Aye hs hb]
  cases Ay (Ai (skM ms w) (Int.toNat w.1)).2.1.1 (Ai (skM ms w) (Int.toNat w.1)).2.1.2.1 <;> exact rfl
theorem Ar2 {g : TCT cGr} {s : TCT cSt} {w : TCT cBw} (h : StaOk g s) (hb : BwOk ((A3 g).length : Int) w) : (Ar0 H0 g s w).sat (fun y => y = Rm (skG g s w)) := by
 have hms : ([] ++ s.1 : Af).length = (A3 g).length := by rw [List.nil_append]; exact h.m
 unfold Ar0 skG
 cases w.2.2.2.1 == 4 with
 | true => simp only [cond_true]; rw [Ox hb.b hms]; exact rfl
 | false =>
  simp only [cond_false]
  rw [Ox hb.b hms]
  have hy := B7p (w := w) h
  cases hf : seF (A3 g) g.2.2.1 0 0 w.1 0 (A3 g).length (Wg (msT s) w.1 (twP w), osT s, []) with
  | inr x => rw [hf] at hy; rw [Aq6 hy (Aqc hf)]; exact rfl
  | inl r =>
   rw [hf] at hy
   rw [Aq5 hy]
   obtain ⟨ms, ks⟩ := r
   have hl := Ayc hf
   have h0 : SM (Wg (msT s) w.1 (twP w)) := Ayf h hb
   have h1 : SM ((Wg (msT s) w.1 (twP w), osT s, []) : S2).1 := h0
   have h2 : SM ((ms, ks) : Af × Kns).1 := B7b hf h1
   have h3 : SM ms := h2
   exact Ar1 hb (hl.trans (A6t.trans h.m)) h3
theorem Ayj {g : TCT cGr} {s : TCT cSt} {w : TCT cBw} (hs : (g.1.1.size : Int) ≤ As .i64) : (Ayh H0 g s w).sat (fun y => y = Rm (skV g s w)) := by
 unfold Ayh skV
 rw [Bz hs, B7m]
 cases h1 : Ee g s != 0 with
 | true => rw [cond_true, Bz hs]; exact rfl
 | false =>
  have h := Ro (bne_eq_false_iff_eq.1 h1)
  have hn8 := h.n8
  have hm := h.m
  have ho := h.o
  simp only [cond_false]
  cases h2 : bwB ((A3 g).length : Int) w with
  | true => exact rfl
  | false =>
   have hb := Bdz h2
   simp only [cond_false]
   cases C0 s with
   | false => exact rfl
   | true =>
    simp only [Bool.not_true, cond_false, Bool.false_or]
    rw [Ci ⟨hb.b.1, by rw [ho]; exact hb.b.2⟩]
    cases At (osT s) (Int.toNat w.1) (Aq .b) with
    | true => exact rfl
    | false =>
     simp only [cond_false]
     rw [Hz (by omega) (by decide), Hz (by omega) (by decide)]
     exact Ar2 h hb
theorem Abq : A7 Tryz.prog 17 Aiz := B6 Ayg 8 (fun x => Ayh H0 x.1 x.2.1 x.2.2.1) (Ayi H0) fun _ hok _ => Ayj (of_decide_eq_true hok)
end St
end V
end Go.Proofs.YtkiaifmbbnnliaaGreat
