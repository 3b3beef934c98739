import Derived.Test.YtcfanlgpkefogaaGreatNc
namespace Go.Proofs.YtcfanlgpkefogaaGreat
open Go.RowKit
namespace V
namespace St
def Bri (o : List Bool) (x : TCT cKn) : List Bool := Bb7 (Bb7 o (Int.toNat x.2.2.2.1) true) (Int.toNat x.2.2.2.2.1) true
def Bkp (o : List Bool) (ks : Kns) : List Bool := ks.foldl Bri o
theorem Bti {o : List Bool} {x : TCT cKn} : (Bri o x).length = o.length := by unfold Bri; rw [Bbf, Bbf]
theorem Btj : ∀ (ks : Kns) (o : List Bool), (Bkp o ks).length = o.length
 | [], _ => rfl
 | x :: ks, o => (Btj ks (Bri o x)).trans Bti
theorem Btk {l : List Bool} {i j : Nat} : i < l.length → Bc5 (Bb7 l i true) j = (Bc5 l j || decide (j = i)) := fun hi => by
 by_cases e : j = i
 ·rw [Cai hi e, decide_eq_true e, Bool.or_true]
 ·rw [Bz9 hi e, decide_eq_false e, Bool.or_false]
theorem Cw6 {a : Int} {k : Nat} (h : 0 ≤ a) : (a == (k : Int)) = decide (k = Int.toNat a) := by
 by_cases e : k = Int.toNat a
 ·rw [decide_eq_true e]; exact beq_iff_eq.2 (by omega)
 ·rw [decide_eq_false e]; exact beq_eq_false_iff_ne.2 (by omega)
structure KN (n : Nat) (x : TCT cKn) : Prop where
 z : x.2.2.1 = 0
 b : 0 ≤ x.2.2.2.1 ∧ x.2.2.2.1 < (n : Int)
 o : 0 ≤ x.2.2.2.2.1 ∧ x.2.2.2.2.1 < (n : Int)
theorem Ct3 {o : List Bool} {x : TCT cKn} {n k : Nat} (hl : o.length = n) (h : KN n x) : Bc5 (Bri o x) k = (Bc5 o k || tcK k x) := by
 unfold Bri
 have h1 : Int.toNat x.2.2.2.1 < o.length := by rw [hl]; exact Bmc h.b.1 h.b.2
 have h2 : Int.toNat x.2.2.2.2.1 < (Bb7 o (Int.toNat x.2.2.2.1) true).length := by rw [Bbf, hl]; exact Bmc h.o.1 h.o.2
 rw [Btk h2, Btk h1]
 unfold tcK
 rw [Cw6 h.b.1, h.z, Cw6 h.o.1, show ((0 : Int) == 0) = true from rfl, Bool.true_and, Bool.or_assoc]
theorem Bzb {n k : Nat} : ∀ (ks : Kns) (o : List Bool), o.length = n → (∀ x ∈ ks, KN n x) → Bc5 (Bkp o ks) k = (Bc5 o k || tcB k ks)
 | [], o, _, _ => by
  show Bc5 o k = (Bc5 o k || false)
  rw [Bool.or_false]
 | x :: ks, o, hl, h => by
  have ih := Bzb (n := n) (k := k) ks (Bri o x) (Bti.trans hl) (fun y hy => h y (List.mem_cons_of_mem _ hy))
  show Bc5 (Bkp (Bri o x) ks) k = (Bc5 o k || (tcK k x || tcB k ks))
  rw [ih, Ct3 hl (h x (List.mem_cons_self ..)), Bool.or_assoc]
theorem Clr {n : Nat} {ks : Kns} (h : KR n ks) (hn : ks.any nbK = false) : ∀ x ∈ ks, KN n x := fun x hx => by
 obtain ⟨i, hi, e⟩ := List.getElem_of_mem hx
 have g : Biu ks i = x := by
  unfold Biu
  rw [Bdg, List.getD_eq_getElem?_getD, List.getElem?_eq_getElem hi, ← e]; rfl
 have z : x.2.2.1 = 0 := by
  have := List.any_eq_false.1 hn x hx
  unfold nbK at this
  exact bne_eq_false_iff_eq.1 (by simpa using this)
 have a := h i hi (by rw [g]; exact z)
 rw [g] at a
 exact ⟨z, a.1, a.2⟩
structure CI (g : TCT cGr) (s0 t0 : TCT cSt) (i : Nat) (t : TCT cSt) (ks : Kns) (hit : List Bool) : Prop where
 a : StaOk g t
 tk : t.2.2.2.2.1 = (i : Int)
 kr : KR (V1 g).length ks
 kl : ks.length ≤ 129152
 hl : hit.length = (V1 g).length
 d : ks.any nbK = false → ∀ h : TCT cPt → Int, PartH h → smP h (msT t) = smP h (msT t0)
 e : ∀ k : Nat, Bc5 hit k = false → tcB k ks = false → Bah (msT t) k = Bah (msT s0) k ∧ Bec (Bah (msT s0) k) = true
theorem CI.tick {g : TCT cGr} {s0 t0 t : TCT cSt} {i : Nat} {ks : Kns} {hit : List Bool} {r : S2} (c : CI g s0 t0 i t ks hit) (hl : C30 g.1) (hi : i ≤ 100) (hk : ks.any nbK = false) (hf : tkF (ctS g t) (msT t, osT t, []) = .inl r) : CI g s0 t0 (i + 1) (nxS t r) r.2.2 (Bkp hit ks) := by
 have con := fun h p => Cdm (h := h) p hl c.a hf
 refine ⟨Cl8 c.a hf, ?_, Ct0 c.a hf, (con _ .x).2, (Btj _ _).trans c.hl, fun hn h p => ?_, fun k hh hk2 => ?_⟩
 ·show W64 (t.2.2.2.2.1 + 1) = _
  rw [c.tk, Bba (n := (i : Int) + 1) (by omega) (by omega)]; rfl
 ·rcases (con h p).1 with a | a
  ·exact a.trans (c.d hk h p)
  ·rw [hn] at a; cases a
 ·rw [Bzb ks hit c.hl (Clr c.kr hk), Bool.or_eq_false_iff] at hh
  obtain ⟨e1, e2⟩ := c.e k hh.1 hh.2
  have R : REL k (msT t, osT t, []) r := Csd (k := ctS g t) c.a.n8 hf
  have e3 := R.r2 (by show Bec (Bah (msT t) k) = true; rw [e1]; exact e2) hk2
  exact ⟨e3.1.trans e1, e2⟩
theorem CI.zero {g : TCT cGr} {s : TCT cSt} {w : TCT cBw} {hit : List Bool} (h : (skV g s w).2.2.1 = 0) (hl : hit.length = (V1 g).length) (hw : Bc5 hit (Int.toNat w.1) = true) : CI g s (skV g s w).1 0 (skV g s w).1 (skV g s w).2.1 hit := by
 obtain ⟨k, _⟩ := Clh h
 obtain ⟨a, b, c, d⟩ := D02 h
 refine ⟨(Clj h).1, b, a, by omega, hl, fun _ _ _ => rfl, fun i hh hk => ?_⟩
 have hne : i ≠ Int.toNat w.1 := fun e => by rw [e, hw] at hh; cases hh
 exact ⟨d i hne hk, Brv k.r i⟩
end St
end V
end Go.Proofs.YtcfanlgpkefogaaGreat
