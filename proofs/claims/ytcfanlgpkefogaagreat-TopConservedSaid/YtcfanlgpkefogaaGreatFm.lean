import Derived.Test.YtcfanlgpkefogaaGreatFl
import Derived.Test.YtcfanlgpkefogaaGreatDp
namespace Go.Proofs.YtcfanlgpkefogaaGreat
open Go.RowKit
namespace V
namespace St
theorem C2x {α : Type} (l : List α) (i : Nat) (x y : α) : Bb7 (Bb7 l i x) i y = Bb7 l i y := by
 rw [Bbe, Bbe, Bbe, List.set_set]
theorem RQ.skM {bl : List (TCT No)} {n : Nat} {N : Int} {ms : Bam} {os : List Bool} {w : TCT cBw} (q : RQ bl n ms os) (hs : SM ms) (hb : BwOk N w) (hi : Int.toNat w.1 < n) (ho : Bc5 os (Int.toNat w.1) = false) (hg : C2q (St.skM ms w) w.1 = false) : RQ bl n (St.skM ms w) os ∧ ∀ j : Nat, (Bah (St.skM ms w) j).1 = (Bah ms j).1 := by
 have hm := q.m
 have e := Cs3 hs hb
 rw [hg] at e
 have hst : Bb3 (Bah (St.skM ms w) (Int.toNat w.1)).2.1.1 (Bah (St.skM ms w) (Int.toNat w.1)).2.1.2.1 = true := by
  cases h : Bb3 (Bah (St.skM ms w) (Int.toNat w.1)).2.1.1 (Bah (St.skM ms w) (Int.toNat w.1)).2.1.2.1 with
  | true => rfl
  | false => rw [h] at e; cases e
 have key : ∃ x : TCT Bau, St.skM ms w = Bb7 ms (Int.toNat w.1) x ∧ arS (Bah ms (Int.toNat w.1)) x := by
  unfold St.skM St.mY St.mX
  rw [C2x, Bg4 (show Int.toNat w.1 < ms.length by omega) rfl]
  exact ⟨_, rfl, rfl, rfl⟩
 obtain ⟨x, hx, ha⟩ := key
 rw [hx] at hst ⊢
 rw [Bg4 (by omega) rfl] at hst
 refine ⟨q.set hi (Blm (q.ok _ hi) ha hst) ho, fun j => ?_⟩
 by_cases ej : j = Int.toNat w.1
 ·rw [Bg4 (by omega) ej, ej]; exact ha.1
 ·rw [Bdv (by omega) ej]
theorem Cat {m : TCT Bau} (h : Bec m = true) : m.2.1.1 = 0 ∧ m.2.1.2.1 = 0 := by
 unfold Bec at h
 rw [Bool.and_eq_true] at h
 exact ⟨beq_iff_eq.1 h.1, beq_iff_eq.1 h.2⟩
theorem PartH.zero {h : TCT cPt → Int} (p : PartH h) {m : TCT Bau} (e : Bec m = true) : h m.2.1 = 0 := by
 obtain ⟨a, b⟩ := Cat e
 cases p with
 | x => exact a
 | y => exact b
theorem C2y {h : TCT cPt → Int} (p : PartH h) : ∀ (l : Bam), l.all Bec = true → smP h l = 0
 | [], _ => rfl
 | m :: l, e => by
  rw [List.all_cons, Bool.and_eq_true] at e
  show h m.2.1 + smP h l = 0
  rw [p.zero e.1, C2y p l e.2]; rfl
theorem Brv {s : TCT cSt} (h : Bew s = true) : AS (msT s) := fun j => by
 unfold Bew at h
 unfold Bah
 by_cases hj : j < (msT s).length
 ·exact List.all_eq_true.1 h _ (Bdl hj _)
 ·rw [Bdg, List.getD_eq_getElem?_getD, List.getElem?_eq_none (Nat.le_of_not_lt hj)]; rfl
theorem Cw4 (a : Int) : 0 - 0 + a = a := by omega
structure SkOk (g : TCT cGr) (s : TCT cSt) (w : TCT cBw) : Prop where
 sk : StaOk g s
 b : BwOk ((V1 g).length : Int) w
 r : Bew s = true
 o : Bc5 (osT s) (Int.toNat w.1) = false
theorem Clh {g : TCT cGr} {s : TCT cSt} {w : TCT cBw} (h : (skV g s w).2.2.1 = 0) : SkOk g s w ∧ skV g s w = skG g s w := by
 unfold skV at h ⊢
 cases h1 : Be4 g s != 0 with
 | true => rw [h1] at h; exact absurd h (bne_iff_ne.1 h1)
 | false =>
  rw [h1] at h
  cases h2 : bwB ((V1 g).length : Int) w with
  | true => rw [h2] at h; cases h
  | false =>
   rw [h2] at h
   cases h3 : !Bew s || Bat (osT s) (Int.toNat w.1) (Bar .b) with
   | true => rw [h3] at h; cases h
   | false =>
    rw [Bool.or_eq_false_iff] at h3
    exact ⟨⟨C6w (bne_eq_false_iff_eq.1 h1), Cks h2, by simpa using h3.1, h3.2⟩, rfl⟩
theorem Czx {g : TCT cGr} {s : TCT cSt} {w : TCT cBw} (h : SkOk g s w) (hb : bwB ((V1 g).length : Int) w = false) : skV g s w = skG g s w := by
 unfold skV
 have h3 : Bat (osT s) (Int.toNat w.1) (Bar .b) = false := h.o
 rw [Btf h.sk, hb, h.r, h3]
 rfl
theorem SkOk.set {g : TCT cGr} {s : TCT cSt} {w : TCT cBw} (h : SkOk g s w) : RK (V1 g) (V1 g).length (msT s) (Bhp (msT s) w.1 (twP w)) (osT s) ∧ SM (Bhp (msT s) w.1 (twP w)) ∧ ∀ f : TCT cPt → Int, PartH f → smP f (Bhp (msT s) w.1 (twP w)) = f (twP w) := by
 have tw := Ckr h.b.f h.b.z h.b.p
 have q := (Btd h.sk).1
 have hm := q.m
 have hi : Int.toNat w.1 < (V1 g).length := Bmc h.b.b.1 h.b.b.2
 have hst : Bb3 (twP w).1 (twP w).2.1 = true := Btc ⟨Int.le_trans (by decide) tw.2.1.1, Int.le_trans tw.2.1.2 (by decide)⟩ ⟨Int.le_trans (by decide) tw.2.2.1, Int.le_trans tw.2.2.2 (by decide)⟩
 have k0 : RK (V1 g) (V1 g).length (msT s) (msT s) (osT s) := ⟨q, fun _ => rfl⟩
 refine ⟨k0.set hi (Blm (q.ok _ hi) ⟨rfl, rfl⟩ hst) h.o rfl, ?_, fun f p => ?_⟩
 ·refine SM.set (fun j => ?_) hst
  obtain ⟨a, b⟩ := Cat (Brv h.r j)
  unfold smB
  rw [a, b]; decide
 ·unfold Bhp
  rw [Blo _ _ _ (by omega), C2y p _ h.r, p.zero (Brv h.r _)]
  cases p with
  | x => exact Cw4 _
  | y => exact Cw4 _
theorem C73 {g : TCT cGr} {w : TCT cBw} {ms : Bam} {os : List Bool} {fl : Int} (hb : BwOk ((V1 g).length : Int) w) (hf : 0 ≤ fl ∧ fl ≤ 8) : Byu (V1 g).length (ms, os, w.1, fl, 0, ()) = false := by
 unfold Byu
 show (decide (w.1 < 0) || (decide (w.1 ≥ ((V1 g).length : Int)) || (decide (fl < 0) || (decide (fl > 8) || (decide ((0 : Int) < 0) || decide ((0 : Int) > 4000)))))) = false
 rw [decide_eq_false (Int.not_lt.2 hb.b.1), decide_eq_false (Int.not_le.2 hb.b.2), decide_eq_false (Int.not_lt.2 hf.1), decide_eq_false (Int.not_lt.2 hf.2)]
 rfl
theorem Cau (m : Int) : fwD m 0 = 0 := by
 unfold fwD
 rw [show Bpr 0 = 0 from rfl, Int.mul_zero]
 decide
theorem Cso {h : TCT cPt → Int} {ms : Bam} {b : Int} (hs : SM ms) : smP h (mX ms b 0) = smP h ms := by
 unfold mX
 refine Bo5 ?_
 have a := Bdi (hs (Int.toNat b))
 rw [Int.add_zero, Bba (Int.le_trans (by decide) a.1.1) (Int.le_trans a.1.2 (by decide))]
theorem Cli {ms : Bam} {b : Int} (hs : SM ms) : SM (mX ms b 0) := by
 unfold mX
 refine SM.set hs ?_
 have a := Bdi (hs (Int.toNat b))
 rw [Int.add_zero, Bba (Int.le_trans (by decide) a.1.1) (Int.le_trans a.1.2 (by decide))]
 exact hs (Int.toNat b)
theorem Csp {h : TCT cPt → Int} {ms : Bam} {b : Int} (hs : SM ms) : smP h (mY ms b 0) = smP h ms := by
 unfold mY
 refine Bo5 ?_
 have a := Bdi (hs (Int.toNat b))
 rw [Int.add_zero, Bba (Int.le_trans (by decide) a.2.1) (Int.le_trans a.2.2 (by decide))]
theorem Clj {g : TCT cGr} {s : TCT cSt} {w : TCT cBw} (h : (skV g s w).2.2.1 = 0) : StaOk g (skV g s w).1 ∧ ∀ f : TCT cPt → Int, PartH f → ((skV g s w).2.1 = [] ∨ w.2.2.2.1 = 0 ∨ w.2.2.2.1 = 4) → smP f (msT (skV g s w).1) = f (twP w) := by
 obtain ⟨k, e⟩ := Clh h
 obtain ⟨k1, k2, k3⟩ := k.set
 have p := (Btd k.sk).2
 have n8 := k.sk.n8
 have hi : Int.toNat w.1 < (V1 g).length := Bmc k.b.b.1 k.b.b.2
 rw [e] at h ⊢
 unfold skG at h ⊢
 cases h4 : w.2.2.2.1 == 4 with
 | true =>
  simp only [cond_true]
  exact ⟨Bte k.sk.gr k.sk.n1 n8 k1.q (k1.ol p) (C73 k.b (by decide)), fun f pf _ => k3 f pf⟩
 | false =>
  rw [h4] at h
  simp only [cond_false] at h ⊢
  cases hf : seF (V1 g) g.2.2.1 0 0 w.1 0 (V1 g).length (Bhp (msT s) w.1 (twP w), osT s, []) with
  | inr x => rw [hf] at h; exact absurd h (Bz6 hf)
  | inl r =>
   rw [hf] at h
   have rk := Cl4 hf k1.q
   have sm := Czb hf k2
   have ol : OL g.1 (V1 g).length r.1 (osT s) := rk.ol (k1.ol p)
   have sum : ∀ f : TCT cPt → Int, PartH f → smP f r.1 = f (twP w) := fun f pf => (C2w pf k1.q.m hf).trans (k3 f pf)
   obtain ⟨ms, ks⟩ := r
   unfold skF at h ⊢
   simp only at h ⊢
   cases hk : decide ((ks.length : Int) > 0) with
   | false =>
    exact ⟨Bte k.sk.gr k.sk.n1 n8 rk.q ol (C73 k.b (by decide)), fun f pf _ => sum f pf⟩
   | true =>
    rw [hk] at h
    cases hg : C2q (skM ms w) w.1 with
    | true => rw [hg] at h; cases h
    | false =>
     obtain ⟨r1, r2⟩ := rk.q.skM sm k.b hi k.o hg
     refine ⟨Bte k.sk.gr k.sk.n1 n8 r1 (fun j hj hjo => ?_) (C73 k.b (by decide)), fun f pf hc => ?_⟩
     ·show onB g.1 (Bah (skM ms w) j).1 = true
      rw [r2 j]; exact ol j hj hjo
     ·rcases hc with hc | hc | hc
      ·have : (ks : Kns) = [] := hc
       rw [this] at hk
       cases hk
      ·show smP f (skM ms w) = _
       unfold skM
       rw [hc, Cau, Cau, Csp (Cli sm), Cso sm]
       exact sum f pf
      ·rw [hc] at h4; cases h4
end St
end V
end Go.Proofs.YtcfanlgpkefogaaGreat
