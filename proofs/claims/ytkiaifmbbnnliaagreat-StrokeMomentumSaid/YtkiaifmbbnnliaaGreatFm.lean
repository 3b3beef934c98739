import Derived.Test.YtkiaifmbbnnliaaGreatFl
import Derived.Test.YtkiaifmbbnnliaaGreatDp
namespace Go.Proofs.YtkiaifmbbnnliaaGreat
open Go.RowKit
namespace V
namespace St
theorem Amo {α : Type} (l : List α) (i : Nat) (x y : α) : B1 (B1 l i x) i y = B1 l i y := by
 rw [Bc, Bc, Bc, List.set_set]
theorem RQ.skM {bl : List (TCT A3)} {n : Nat} {N : Int} {ms : Ae} {os : List Bool} {w : TCT cBw} (q : RQ bl n ms os) (hs : SM ms) (hb : BwOk N w) (hi : Int.toNat w.1 < n) (ho : Ft os (Int.toNat w.1) = false) (hg : Afh (St.skM ms w) w.1 = false) : RQ bl n (St.skM ms w) os ∧ ∀ j : Nat, (Ag (St.skM ms w) j).1 = (Ag ms j).1 := by
 have hm := q.m
 have e := Atj hs hb
 rw [hg] at e
 have hst : Au (Ag (St.skM ms w) (Int.toNat w.1)).2.1.1 (Ag (St.skM ms w) (Int.toNat w.1)).2.1.2.1 = true := by
  cases h : Au (Ag (St.skM ms w) (Int.toNat w.1)).2.1.1 (Ag (St.skM ms w) (Int.toNat w.1)).2.1.2.1 with
  | true => rfl
  | false => rw [h] at e; cases e
 have key : ∃ x : TCT Ai, St.skM ms w = B1 ms (Int.toNat w.1) x ∧ arS (Ag ms (Int.toNat w.1)) x := by
  unfold St.skM St.mY St.mX
  rw [Amo, I1 (show Int.toNat w.1 < ms.length by omega) rfl]
  exact ⟨_, rfl, rfl, rfl⟩
 obtain ⟨x, hx, ha⟩ := key
 rw [hx] at hst ⊢
 rw [I1 (by omega) rfl] at hst
 refine ⟨q.set hi (N6 (q.ok _ hi) ha hst) ho, fun j => ?_⟩
 by_cases ej : j = Int.toNat w.1
 ·rw [I1 (by omega) ej, ej]; exact ha.1
 ·rw [Ff (by omega) ej]
theorem Ad3 {m : TCT Ai} (h : Hs m = true) : m.2.1.1 = 0 ∧ m.2.1.2.1 = 0 := by
 unfold Hs at h
 rw [Bool.and_eq_true] at h
 exact ⟨beq_iff_eq.1 h.1, beq_iff_eq.1 h.2⟩
theorem PartH.zero {h : TCT cPt → Int} (p : PartH h) {m : TCT Ai} (e : Hs m = true) : h m.2.1 = 0 := by
 obtain ⟨a, b⟩ := Ad3 e
 cases p with
 | x => exact a
 | y => exact b
theorem A5k {h : TCT cPt → Int} (p : PartH h) : ∀ (l : Ae), l.all Hs = true → smP h l = 0
 | [], _ => rfl
 | m :: l, e => by
  rw [List.all_cons, Bool.and_eq_true] at e
  show h m.2.1 + smP h l = 0
  rw [p.zero e.1, A5k p l e.2]; rfl
theorem A1p {s : TCT cSt} (h : Gn s = true) : AS (msT s) := fun j => by
 unfold Gn at h
 unfold Ag
 by_cases hj : j < (msT s).length
 ·exact List.all_eq_true.1 h _ (Mq hj _)
 ·rw [I6, List.getD_eq_getElem?_getD, List.getElem?_eq_none (Nat.le_of_not_lt hj)]; rfl
theorem Axj (a : Int) : 0 - 0 + a = a := by omega
structure SkOk (g : TCT cGr) (s : TCT cSt) (w : TCT cBw) : Prop where
 sk : StaOk g s
 b : BwOk ((A4 g).length : Int) w
 r : Gn s = true
 o : Ft (osT s) (Int.toNat w.1) = false
theorem Axk {g : TCT cGr} {s : TCT cSt} {w : TCT cBw} (h : (skV g s w).2.2.1 = 0) : SkOk g s w ∧ skV g s w = skG g s w := by
 unfold skV at h ⊢
 cases h1 : Dy g s != 0 with
 | true => rw [h1] at h; exact absurd h (bne_iff_ne.1 h1)
 | false =>
  rw [h1] at h
  cases h2 : bwB ((A4 g).length : Int) w with
  | true => rw [h2] at h; cases h
  | false =>
   rw [h2] at h
   cases h3 : !Gn s || Aq (osT s) (Int.toNat w.1) (Ao .b) with
   | true => rw [h3] at h; cases h
   | false =>
    rw [Bool.or_eq_false_iff] at h3
    exact ⟨⟨A1l (bne_eq_false_iff_eq.1 h1), Am4 h2, by simpa using h3.1, h3.2⟩, rfl⟩
theorem B11 {g : TCT cGr} {s : TCT cSt} {w : TCT cBw} (h : SkOk g s w) (hb : bwB ((A4 g).length : Int) w = false) : skV g s w = skG g s w := by
 unfold skV
 have h3 : Aq (osT s) (Int.toNat w.1) (Ao .b) = false := h.o
 rw [Rm h.sk, hb, h.r, h3]
 rfl
theorem SkOk.set {g : TCT cGr} {s : TCT cSt} {w : TCT cBw} (h : SkOk g s w) : RK (A4 g) (A4 g).length (msT s) (Ov (msT s) w.1 (twP w)) (osT s) ∧ SM (Ov (msT s) w.1 (twP w)) ∧ ∀ f : TCT cPt → Int, PartH f → smP f (Ov (msT s) w.1 (twP w)) = f (twP w) := by
 have tw := Am3 h.b.f h.b.z h.b.p
 have q := (Rl h.sk).1
 have hm := q.m
 have hi : Int.toNat w.1 < (A4 g).length := Zq h.b.b.1 h.b.b.2
 have hst : Au (twP w).1 (twP w).2.1 = true := Vj ⟨Int.le_trans (by decide) tw.2.1.1, Int.le_trans tw.2.1.2 (by decide)⟩ ⟨Int.le_trans (by decide) tw.2.2.1, Int.le_trans tw.2.2.2 (by decide)⟩
 have k0 : RK (A4 g) (A4 g).length (msT s) (msT s) (osT s) := ⟨q, fun _ => rfl⟩
 refine ⟨k0.set hi (N6 (q.ok _ hi) ⟨rfl, rfl⟩ hst) h.o rfl, ?_, fun f p => ?_⟩
 ·refine SM.set (fun j => ?_) hst
  obtain ⟨a, b⟩ := Ad3 (A1p h.r j)
  unfold smB
  rw [a, b]; decide
 ·unfold Ov
  rw [N7 _ _ _ (by omega), A5k p _ h.r, p.zero (A1p h.r _)]
  cases p with
  | x => exact Axj _
  | y => exact Axj _
theorem A9p {g : TCT cGr} {w : TCT cBw} {ms : Ae} {os : List Bool} {fl : Int} (hb : BwOk ((A4 g).length : Int) w) (hf : 0 ≤ fl ∧ fl ≤ 8) : A17 (A4 g).length (ms, os, w.1, fl, 0, ()) = false := by
 unfold A17
 show (decide (w.1 < 0) || (decide (w.1 ≥ ((A4 g).length : Int)) || (decide (fl < 0) || (decide (fl > 8) || (decide ((0 : Int) < 0) || decide ((0 : Int) > 4000)))))) = false
 rw [decide_eq_false (Int.not_lt.2 hb.b.1), decide_eq_false (Int.not_le.2 hb.b.2), decide_eq_false (Int.not_lt.2 hf.1), decide_eq_false (Int.not_lt.2 hf.2)]
 rfl
theorem Ad4 (m : Int) : fwD m 0 = 0 := by
 unfold fwD
 rw [show Rk 0 = 0 from rfl, Int.mul_zero]
 decide
theorem Atv {h : TCT cPt → Int} {ms : Ae} {b : Int} (hs : SM ms) : smP h (mX ms b 0) = smP h ms := by
 unfold mX
 refine Vl ?_
 have a := El (hs (Int.toNat b))
 rw [Int.add_zero, Bp (Int.le_trans (by decide) a.1.1) (Int.le_trans a.1.2 (by decide))]
theorem Amp {ms : Ae} {b : Int} (hs : SM ms) : SM (mX ms b 0) := by
 unfold mX
 refine SM.set hs ?_
 have a := El (hs (Int.toNat b))
 rw [Int.add_zero, Bp (Int.le_trans (by decide) a.1.1) (Int.le_trans a.1.2 (by decide))]
 exact hs (Int.toNat b)
theorem Atw {h : TCT cPt → Int} {ms : Ae} {b : Int} (hs : SM ms) : smP h (mY ms b 0) = smP h ms := by
 unfold mY
 refine Vl ?_
 have a := El (hs (Int.toNat b))
 rw [Int.add_zero, Bp (Int.le_trans (by decide) a.2.1) (Int.le_trans a.2.2 (by decide))]
theorem Amq {g : TCT cGr} {s : TCT cSt} {w : TCT cBw} (h : (skV g s w).2.2.1 = 0) : StaOk g (skV g s w).1 ∧ ∀ f : TCT cPt → Int, PartH f → ((skV g s w).2.1 = [] ∨ w.2.2.2.1 = 0 ∨ w.2.2.2.1 = 4) → smP f (msT (skV g s w).1) = f (twP w) := by
 obtain ⟨k, e⟩ := Axk h
 obtain ⟨k1, k2, k3⟩ := k.set
 have p := (Rl k.sk).2
 have n8 := k.sk.n8
 have hi : Int.toNat w.1 < (A4 g).length := Zq k.b.b.1 k.b.b.2
 rw [e] at h ⊢
 unfold skG at h ⊢
 cases h4 : w.2.2.2.1 == 4 with
 | true =>
  simp only [cond_true]
  exact ⟨Vk k.sk.gr k.sk.n1 n8 k1.q (k1.ol p) (A9p k.b (by decide)), fun f pf _ => k3 f pf⟩
 | false =>
  rw [h4] at h
  simp only [cond_false] at h ⊢
  cases hf : seF (A4 g) g.2.2.1 0 0 w.1 0 (A4 g).length (Ov (msT s) w.1 (twP w), osT s, []) with
  | inr x => rw [hf] at h; exact absurd h (A9k hf)
  | inl r =>
   rw [hf] at h
   have rk := Amg hf k1.q
   have sm := B0j hf k2
   have ol : OL g.1 (A4 g).length r.1 (osT s) := rk.ol (k1.ol p)
   have sum : ∀ f : TCT cPt → Int, PartH f → smP f r.1 = f (twP w) := fun f pf => (A5j pf k1.q.m hf).trans (k3 f pf)
   obtain ⟨ms, ks⟩ := r
   unfold skF at h ⊢
   simp only at h ⊢
   cases hk : decide ((ks.length : Int) > 0) with
   | false =>
    exact ⟨Vk k.sk.gr k.sk.n1 n8 rk.q ol (A9p k.b (by decide)), fun f pf _ => sum f pf⟩
   | true =>
    rw [hk] at h
    cases hg : Afh (skM ms w) w.1 with
    | true => rw [hg] at h; cases h
    | false =>
     obtain ⟨r1, r2⟩ := rk.q.skM sm k.b hi k.o hg
     refine ⟨Vk k.sk.gr k.sk.n1 n8 r1 (fun j hj hjo => ?_) (A9p k.b (by decide)), fun f pf hc => ?_⟩
     ·show onB g.1 (Ag (skM ms w) j).1 = true
      rw [r2 j]; exact ol j hj hjo
     ·rcases hc with hc | hc | hc
      ·have : (ks : Kns) = [] := hc
       rw [this] at hk
       cases hk
      ·show smP f (skM ms w) = _
       unfold skM
       rw [hc, Ad4, Ad4, Atw (Amp sm), Atv sm]
       exact sum f pf
      ·rw [hc] at h4; cases h4
end St
end V
end Go.Proofs.YtkiaifmbbnnliaaGreat
