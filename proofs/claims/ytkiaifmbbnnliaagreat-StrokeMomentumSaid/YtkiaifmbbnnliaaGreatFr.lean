import Derived.Test.YtkiaifmbbnnliaaGreatFq
namespace Go.Proofs.YtkiaifmbbnnliaaGreat
open Go.RowKit
namespace V
namespace St
theorem B1e {n : Nat} {q : QM} (hl : (q.k.length : Int) ≤ As .i64) : iter (I2 n) (q.k.length + 1) (Pw n q 0) = some (bif q.k.any nbK then A1t n else A1s n q) :=
 K0 q.k (Ao cKn) (Pw n q) nbK (A1t n) (A1s n q) hl fun _ => rfl
def Au8 (n : Nat) (q : QN) (r : SKTs kPt ⊕ Unit) : A1 (Iq n) := A1u n q (gP r)
theorem B1f {n : Nat} {q : QN} (hm : ((msZ q).length : Int) ≤ As .i64) : iter (I3 n) ((msZ q).length + 1) (Px n q 0 p0) = some (A1u n q (Pt (msZ q))) := by
 refine G8 (msZ q).length (fun i p => Px n q i p) (A1a (msZ q)) (Au8 n q) (fun _ _ => True) (fun i p hi _ => ?_) (fun _ _ _ _ _ _ => trivial) (fun p _ => ?_) (msZ q).length 0 p0 (by omega) trivial
 ·show (sm2 n q (i : Int) p).run = _
  unfold sm2 A1a
  rw [decide_eq_true (show (i : Int) < ((msZ q).length : Int) by omega), E3 (by omega), E3 (by omega), show Int.toNat (i : Int) = i from rfl, Cj hi hm]
  rfl
 ·show (sm2 n q ((msZ q).length : Int) p).run = _
  unfold sm2
  rw [decide_eq_false (show ¬ ((msZ q).length : Int) < ((msZ q).length : Int) by omega)]
  rfl
theorem RQ.sm {bl : List (TCT A3)} {n : Nat} {ms : Ae} {os : List Bool} (q : RQ bl n ms os) : SM ms := fun j => by
 by_cases hj : j < n
 ·have := q.ok j hj
  unfold Lv Q9 at this
  simp only [Bool.and_eq_true] at this
  exact this.2.2.1
 ·have hm := q.m
  unfold Ag
  rw [I6, List.getD_eq_getElem?_getD, List.getElem?_eq_none (by omega)]
  rfl
theorem A9r {g : TCT cGr} {s : TCT cSt} (h : StaOk g s) : SM (msT s) ∧ (msT s).length ≤ 8 := by
 have hm := h.m
 have h8 := h.n8
 exact ⟨(Rl h).1.sm, by omega⟩
theorem A1v {g : TCT cGr} {s : TCT cSt} (h : StaOk g s) : Im g s = Pt (msT s) := by
 unfold Im
 rw [Rm h]
 rfl
theorem Ada {a b : Ae} (ha : SM a ∧ a.length ≤ 8) (hb : SM b ∧ b.length ≤ 8) (h : ∀ f : TCT cPt → Int, PartH f → smP f a = smP f b) : A5n (Pt a) (Pt b) = true := by
 obtain ⟨a1, a2⟩ := Ad8 ha.2 ha.1
 obtain ⟨b1, b2⟩ := Ad8 hb.2 hb.1
 unfold A5n
 rw [a1, a2, b1, b2, h _ .x, h _ .y, beq_self_eq_true, beq_self_eq_true]
 rfl
theorem An1 {g : TCT cGr} {s : TCT cSt} : (∃ e : Int, He g s = K3 e ∧ e ≠ 0) ∨ ∃ r : S2, StaOk g s ∧ tkF (ctS g s) (msT s, osT s, []) = .inl r ∧ He g s = (nxS s r, r.2.2, 0, ()) := by
 unfold He
 cases h1 : Dy g s != 0 with
 | true => exact .inl ⟨Dy g s, rfl, bne_iff_ne.1 h1⟩
 | false =>
  have h := A1l (bne_eq_false_iff_eq.1 h1)
  unfold tkV
  cases hf : tkF (ctS g s) (msT s, osT s, []) with
  | inr e => exact .inl ⟨e, rfl, All hf⟩
  | inl r => exact .inr ⟨r, h, rfl, rfl⟩
theorem Au9 {k : CT} {s r : S2} (h : tkF k s = .inl r) : ∃ ms : Ae, Ar (slE k.l s.2.1 k.w k.fl) 0 k.bl.length s.1 = .inl ms := by
 unfold tkF at h
 cases e0 : k.t == 4000 with
 | true => rw [e0] at h; cases h
 | false =>
  rw [e0, cond_false] at h
  cases e1 : Ar (slE k.l s.2.1 k.w k.fl) 0 k.bl.length s.1 with
  | inr e => rw [e1] at h; cases h
  | inl ms => exact ⟨ms, rfl⟩
theorem A5p {n : Nat} {g : TCT cGr} {s : TCT cSt} (hs : (g.1.1.size : Int) ≤ As .i64) : (Zt He Im Nz n g s).sat (fun _ => True) := by
 unfold Zt
 rw [C5 hs]
 rcases An1 (g := g) (s := s) with ⟨e, h1, h2⟩ | ⟨r, h, hf, hu⟩
 ·rw [h1, show ((K3 e).2.2.1 != 0) = true from bne_iff_ne.2 h2]
  exact trivial
 ·have hn8 := h.n8
  have hm := h.m
  have ho := h.o
  have hp := Vf (l := g.1)
  obtain ⟨ms, e1⟩ := Au9 hf
  have hsum : ∀ f : TCT cPt → Int, PartH f → MSk f (smP f ms) r.1 r.2.2 ∧ r.2.2.length ≤ 129152 := fun f p => by
   have := Atu p (k := ctS g s) (s := (msT s, osT s, [])) hn8 (by show (Ho g.1).length ≤ 1000; omega) hm ho e1 hf
   simpa using this
  have hkl := (hsum _ .x).2
  rw [hu]
  show Tree.sat _ (Axm Im Nz n (iter (I2 n) ((r.2.2 : Kns).length + 1) (Pw n ⟨Ee g, s, nxS s r, r.2.2⟩ 0)))
  rw [B1e (q := ⟨Ee g, s, nxS s r, r.2.2⟩) (by show (r.2.2.length : Int) ≤ 9223372036854775807; omega)]
  cases ha : (r.2.2 : Kns).any nbK with
  | true => exact trivial
  | false =>
   show Tree.sat _ (Amz Im Nz n (Ee g) s (nxS s r))
   unfold Amz
   rw [show szT (lwG (Ee g)) _ = _ from C5 (l := g.1) hs]
   show Tree.sat _ (bif Dy g s != 0 then .fail else thL (Nz ((g, s, ()), ())) [] (fun _ => A5o Im n (Ee g) (nxS s r) ([], [], 0, 0, 0, ())) (fun ms => A5o Im n (Ee g) (nxS s r) (ms, s.2.1, s.2.2.1, s.2.2.2.1, s.2.2.2.2.1, ())) [4])
   rw [Rm h, cond_false]
   have hy : Nz ((g, s, ()), ()) = some (.inl ms) := by
    have e2 : Ar (slE g.1 (osT s) s.2.2.1 s.2.2.2.1) 0 (A4 g).length (msT s) = .inl ms := e1
    rw [B5t (B0f h)] at e2
    unfold Nz
    rw [show Alu g s = true by
     unfold Alu
     simp only [Bool.and_eq_true, decide_eq_true_eq]
     exact ⟨hs, h.m, h.o, hn8⟩]
    show some (Ar (srE g.1 (osT s) s.2.2.1 s.2.2.2.1) 0 (A4 g).length (msT s)) = _
    rw [e2]
   rw [B5m hy]
   have q0 := Rl h
   have q1 : RQ (A4 g) (A4 g).length ms (osT s) ∧ OL g.1 (A4 g).length ms (osT s) := Ax (n := (A4 g).length) (Inv := fun _ (x : Ae) => RQ (A4 g) (A4 g).length x (osT s) ∧ OL g.1 (A4 g).length x (osT s)) (fun i x x' hi hq h => Ama hi h hq.1 hq.2) (A4 g).length 0 _ _ (by omega) q0 e1
   have hml := q1.1.m
   unfold A5o
   rw [show iter (I3 n) ((ms : Ae).length + 1) (Px n ⟨Ee g, nxS s r, (ms, s.2.1, s.2.2.1, s.2.2.2.1, s.2.2.2.2.1, ())⟩ 0 p0) = _ from B1f (q := ⟨Ee g, nxS s r, (ms, s.2.1, s.2.2.1, s.2.2.2.1, s.2.2.2.2.1, ())⟩) (by show ((ms : Ae).length : Int) ≤ 9223372036854775807; omega)]
   show Tree.sat _ (Amy Im (Ee g) (nxS s r) (Pt ms))
   unfold Amy
   rw [show szT (lwG (Ee g)) _ = _ from C5 (l := g.1) hs]
   show Tree.sat _ (bif Dy g (nxS s r) == 0 then bif A5n (Im g (nxS s r)) (Pt ms) then lfU else .fail else .fail)
   have hu' : StaOk g (nxS s r) := Amj h hf
   rw [show (Dy g (nxS s r) == 0) = true from beq_iff_eq.2 (bne_eq_false_iff_eq.1 (Rm hu')), A1v hu', Ada (A9r hu') ⟨q1.1.sm, by omega⟩ (fun f p => by
    rcases (hsum f p).1 with a | a
    ·exact a
    ·rw [ha] at a; cases a)]
   exact trivial
theorem B1g {g : TCT cGr} {s : TCT cSt} {w : TCT cBw} (hs : (g.1.1.size : Int) ≤ As .i64) : (Au6 skV He Im Nz Pv Ir g s w).sat (fun _ => True) := by
 unfold Au6
 rw [C5 hs]
 cases hg : Ir g s with
 | true => exact trivial
 | false =>
  obtain ⟨l1, l2⟩ := Amx hg
  rw [cond_false, C5 hs]
  cases he : (skV g s w).2.2.1 == 0 with
  | false => exact A5p hs
  | true =>
   have h0 := beq_iff_eq.1 he
   obtain ⟨k, _⟩ := Axk h0
   obtain ⟨t1, t2⟩ := Amq h0
   obtain ⟨a0, a1, a2⟩ := B13 k
   rw [cond_true]
   unfold Axn alT
   rw [C5 hs, decide_eq_true l1, decide_eq_true l2, cond_true, cond_true, C5 hs]
   show Tree.sat _ (bif Dy g (skV g s w).1 != 0 then .fail else bif (skV g (sAl s w.1) (wAl w)).2.2.1 != 0 then .fail else szT g.1 (
    An0 w.2.2.2.1 (Im g (skV g s w).1) (Im g (skV g (sAl s w.1) (wAl w)).1) (skV g s w).2.1 (Dy g (skV g (sAl s w.1) (wAl w)).1) (Zt He Im Nz 32 g (skV g s w).1)))
   rw [Rm t1, cond_false, a0, bne_self_eq_false, cond_false, C5 hs, A1v t1, A1v a1]
   have eq : ((skV g s w).2.1 = [] ∨ w.2.2.2.1 = 0 ∨ w.2.2.2.1 = 4) → A5n (Pt (msT (skV g s w).1)) (Pt (msT (skV g (sAl s w.1) (wAl w)).1)) = true := fun hc => Ada (A9r t1) (A9r a1) fun f p => (t2 f p hc).trans (a2 f p).symm
   have fin : (Zt He Im Nz 32 g (skV g s w).1).sat (fun _ => True) := A5p hs
   unfold An0
   rw [Rm a1, cond_false]
   cases c1 : (((skV g s w).2.1 : Kns).length : Int) == 0 with
   | true =>
    have : (skV g s w).2.1 = [] := List.eq_nil_of_length_eq_zero (by have := beq_iff_eq.1 c1; omega)
    rw [eq (.inl this)]; exact fin
   | false =>
    cases c2 : w.2.2.2.1 == 0 with
    | true => rw [eq (.inr (.inl (beq_iff_eq.1 c2)))]; exact fin
    | false =>
     cases c3 : w.2.2.2.1 == 4 with
     | true => rw [eq (.inr (.inr (beq_iff_eq.1 c3)))]; exact fin
     | false => exact fin
end St
open St
theorem strokeMomentum_sat : LawSat2 X_strokeMomentum 5 cs_strokeMomentum 8 := Awk 8 (fun y => Au6 skV He Im Nz Pv Ir y.1 y.2.1 y.2.2.1) (Au7 skV He Im Nz Pv Ir) fun _ _ hs => B1g hs.1.1.1
end V
end Go.Proofs.YtkiaifmbbnnliaaGreat
