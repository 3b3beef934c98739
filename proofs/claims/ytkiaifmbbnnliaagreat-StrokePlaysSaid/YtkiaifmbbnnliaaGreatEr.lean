import Derived.Test.YtkiaifmbbnnliaaGreatDm
import Derived.Test.YtkiaifmbbnnliaaGreatDw
namespace Go.Proofs.YtkiaifmbbnnliaaGreat
open Go.RowKit
namespace V
namespace St
theorem Nb {α : Type} {d : α} {l : List α} {i j : Nat} {x : α} (hi : i < l.length) : At (B5 l i x) j d = if j = i then x else At l j d := by
 rw [Bo, Ji, Ji, List.getD_eq_getElem?_getD, List.getD_eq_getElem?_getD, List.getElem?_set]
 by_cases h : i = j
 ·subst h
  rw [if_pos rfl, if_pos hi, if_pos rfl]; rfl
 ·rw [if_neg h, if_neg (fun e => h e.symm)]
theorem Nc {l : Af} {i j : Nat} {x : TCT Aj} (hi : i < l.length) (h : j = i) : Ai (B5 l i x) j = x := by unfold Ai; rw [Nb hi, if_pos h]
theorem Id {l : Af} {i j : Nat} {x : TCT Aj} (hi : i < l.length) (h : ¬ j = i) : Ai (B5 l i x) j = Ai l j := by unfold Ai; rw [Nb hi, if_neg h]
def Ks (os : List Bool) (i : Nat) : Bool := At os i (Aq .b)
theorem Ayv {l : List Bool} {i j : Nat} {x : Bool} (hi : i < l.length) (h : j = i) : Ks (B5 l i x) j = x := by unfold Ks; rw [Nb hi, if_pos h]
theorem Aga {l : List Bool} {i j : Nat} {x : Bool} (hi : i < l.length) (h : ¬ j = i) : Ks (B5 l i x) j = Ks l j := by unfold Ks; rw [Nb hi, if_neg h]
def arS (m m' : TCT Aj) : Prop := m'.1 = m.1 ∧ m'.2.2.1 = m.2.2.1
theorem U8 {b : TCT A4} {m m' : TCT Aj} (h : Px b m = true) (ha : arS m m') (hs : smB m' = true) : Px b m' = true := by
 unfold Px Qd at h ⊢
 simp only [Bool.and_eq_true] at h ⊢
 rw [ha.1, ha.2]
 exact ⟨h.1, h.2.1, hs, h.2.2.2⟩
structure RQ (bl : List (TCT A4)) (n : Nat) (ms : Af) (os : List Bool) : Prop where
 m : ms.length = n
 o : os.length = n
 ok : ∀ j, j < n → Px (D9 bl j) (Ai ms j) = true
 z : ∀ j, j < n → Ks os j = true → O6 (Ai ms j) = true
def OL (l : TCT An) (n : Nat) (ms : Af) (os : List Bool) : Prop := ∀ j, j < n → Ks os j = false → onB l (Ai ms j).1 = true
theorem Wi {ms : Af} {os : List Bool} {i : Nat} (h : (!C1 ms os i) = false) : Ks os i = false := by
 unfold C1 at h
 unfold Ks
 cases ho : At os i (Aq .b) with
 | false => rfl
 | true => rw [ho] at h; cases h
theorem RQ.set {bl : List (TCT A4)} {n i : Nat} {ms : Af} {os : List Bool} {x : TCT Aj} (q : RQ bl n ms os) (hi : i < n) (hx : Px (D9 bl i) x = true) (ho : Ks os i = false) : RQ bl n (B5 ms i x) os := by
 have hm := q.m
 refine ⟨(Br _ _ _).trans hm, q.o, fun j hj => ?_, fun j hj h => ?_⟩
 ·by_cases e : j = i
  ·rw [Nc (by omega) e, e]; exact hx
  ·rw [Id (by omega) e]; exact q.ok j hj
 ·by_cases e : j = i
  ·rw [e, ho] at h; cases h
  ·rw [Id (by omega) e]; exact q.z j hj h
theorem OL.set {l : TCT An} {n i : Nat} {ms : Af} {os : List Bool} {x : TCT Aj} (q : OL l n ms os) (hm : ms.length = n) (hi : i < n) (hx : x.1 = (Ai ms i).1) : OL l n (B5 ms i x) os := fun j hj h => by
 by_cases e : j = i
 ·rw [Nc (by omega) e, hx, ← e]; exact q j hj h
 ·rw [Id (by omega) e]; exact q j hj h
theorem Ayw {p n A : Int} (hn : 0 < n) (h1 : -(A * n) ≤ p) (h2 : p ≤ A * n) : -A ≤ Int.tdiv p n ∧ Int.tdiv p n ≤ A := by
 have key : ∀ q : Int, 0 ≤ q → q ≤ A * n → 0 ≤ q / n ∧ q / n ≤ A := fun q h0 h => by
  refine ⟨Int.ediv_nonneg h0 (by omega), ?_⟩
  have : q / n < A + 1 := Int.ediv_lt_of_lt_mul hn (by rw [Int.add_mul, Int.one_mul]; omega)
  omega
 by_cases hp : 0 ≤ p
 ·rw [Int.tdiv_eq_ediv_of_nonneg hp]
  have := key p hp h2
  omega
 ·have e : p = -(-p) := by omega
  rw [e, Int.neg_tdiv, Int.tdiv_eq_ediv_of_nonneg (show 0 ≤ -p by omega)]
  have := key (-p) (by omega) (by omega)
  omega
theorem A6z {x a n A : Int} (hx : -A ≤ x ∧ x ≤ A) (hA : 0 ≤ A) (ha : 0 ≤ a ∧ a ≤ n) (hn : 0 < n) : -A ≤ Int.tdiv (x * a) n ∧ Int.tdiv (x * a) n ≤ A := by
 have h1 : x * a ≤ A * a := Int.mul_le_mul_of_nonneg_right hx.2 ha.1
 have h2 : (-A) * a ≤ x * a := Int.mul_le_mul_of_nonneg_right hx.1 ha.1
 have h3 : A * a ≤ A * n := Int.mul_le_mul_of_nonneg_left ha.2 hA
 rw [Int.neg_mul] at h2
 exact Ayw hn (by omega) (by omega)
theorem Abu {x y : Int} (hx : -16777216 ≤ x ∧ x ≤ 16777216) (hy : -16777216 ≤ y ∧ y ≤ 16777216) : Ay x y = true := by
 unfold Ay Az
 rw [decide_eq_false (show ¬ x < -16777216 by omega), decide_eq_false (show ¬ 16777216 < x by omega), decide_eq_false (show ¬ y < -16777216 by omega), decide_eq_false (show ¬ 16777216 < y by omega)]
 rfl
theorem Aj3 {x y : Int} (h : Ay x y = true) : (-16777216 ≤ x ∧ x ≤ 16777216) ∧ (-16777216 ≤ y ∧ y ≤ 16777216) := by
 unfold Ay at h
 simp only [Bool.and_eq_true, Bool.not_eq_true'] at h
 exact ⟨E8 h.1, E8 h.2⟩
theorem A70 {x y l : Int} (h : (Jd x y l).2.1 = 0) : Ay (Jd x y l).1.1 (Jd x y l).1.2.1 = true := by
 unfold Jd at h ⊢
 cases h1 : Ay x y with
 | false => rw [h1] at h; cases h
 | true =>
  rw [h1] at h
  simp only [Bool.not_true, cond_false] at h ⊢
  cases h2 : Az l 0 33554432 with
  | true => rw [h2] at h; cases h
  | false =>
   rw [h2] at h
   simp only [cond_false] at h ⊢
   cases h3 : decide (slN x y ≤ 8 * l) with
   | true => rfl
   | false =>
    have b := Aj3 h1
    have c := E8 h2
    have d := of_decide_eq_false h3
    simp only [cond_false]
    exact Abu (A6z b.1 (by omega) ⟨by omega, by omega⟩ (by omega)) (A6z b.2 (by omega) ⟨by omega, by omega⟩ (by omega))
theorem B7u {l : TCT An} {bl : List (TCT A4)} {os : List Bool} {w fl : Int} {i n : Nat} {ms ms' : Af} (hi : i < n) (h : slE l os w fl i ms = .inl ms') (q : RQ bl n ms os) (p : OL l n ms os) : RQ bl n ms' os ∧ OL l n ms' os := by
 unfold slE at h
 cases h1 : !C1 ms os i || El w fl i with
 | true => rw [h1] at h; cases h; exact ⟨q, p⟩
 | false =>
  rw [h1] at h
  rw [Bool.or_eq_false_iff] at h1
  cases h2 : Gh l (Ai ms i).1 != 0 with
  | true => rw [h2] at h; cases h
  | false =>
   rw [h2] at h
   cases h3 : (Ls l (Ai ms i)).2.1 != 0 with
   | true => rw [h3] at h; cases h
   | false =>
    rw [h3] at h
    cases h
    have hs : smB (Aai l (Ai ms i)) = true := A70 (bne_eq_false_iff_eq.1 h3)
    exact ⟨q.set hi (U8 (q.ok i hi) ⟨rfl, rfl⟩ hs) (Wi h1.1), p.set q.m hi rfl⟩
theorem B3h (n m : Int) (hm : 1 ≤ m) : -(32 * m) ≤ DR n (64 * m) ∧ DR n (64 * m) ≤ 32 * m - 1 := by
 unfold DR DW
 have a := Int.ediv_mul_le (2 * n + 64 * m) (show 2 * (64 * m) ≠ 0 by omega)
 have b := Int.lt_ediv_add_one_mul_self (2 * n + 64 * m) (show 0 < 2 * (64 * m) by omega)
 generalize (2 * n + 64 * m) / (2 * (64 * m)) = w at a b
 rw [Int.add_mul, Int.one_mul] at b
 have e : w * (2 * (64 * m)) = 2 * (w * (64 * m)) := by grind
 rw [e] at a b
 omega
theorem Arg {x lo hi : Int} (h : lo ≤ x ∧ x ≤ hi) : Az x lo hi = false := by
 unfold Az
 rw [decide_eq_false (show ¬ x < lo by omega), decide_eq_false (show ¬ hi < x by omega)]; rfl
theorem Arh {b : TCT A4} {m : TCT Aj} (h : (Qg (bm b m)).2.1 = 0) : Px b (Qg (bm b m)).1 = true := by
 unfold Qg at h ⊢
 cases h1 : (bm b m).ok with
 | false => rw [h1] at h; cases h
 | true =>
  rw [h1] at h
  simp only [Bool.not_true, cond_false] at h ⊢
  cases h2 : fpt (sX (bm b m)) (sY (bm b m)) with
  | false => rw [h2] at h; cases h
  | true =>
   simp only [Bool.not_true, cond_false]
   have f := Bm.fit h1
   unfold Bm.ok Qd at h1
   simp only [Bool.and_eq_true] at h1
   unfold Px Qd
   simp only [Bool.and_eq_true, Bool.not_eq_true']
   have hm : 1 ≤ b.1 := Int.le_trans (by decide) f.m1
   exact ⟨h1.1, h2, h1.2.2.1, Arg (B3h _ b.1 hm), Arg (B3h _ b.1 hm)⟩
theorem B7v {bl : List (TCT A4)} {os : List Bool} {i n : Nat} {ms ms' : Af} (hi : i < n) (h : stE bl os i ms = .inl ms') (q : RQ bl n ms os) : RQ bl n ms' os := by
 unfold stE at h
 cases h1 : !C1 ms os i with
 | true => rw [h1] at h; cases h; exact q
 | false =>
  rw [h1] at h
  cases h3 : (Pz (D9 bl i) (Ai ms i)).2.1 != 0 with
  | true => rw [h3] at h; cases h
  | false =>
   rw [h3] at h
   cases h
   exact q.set hi (Arh (bne_eq_false_iff_eq.1 h3)) (Wi h1)
theorem B7w {l : TCT An} {bl : List (TCT A4)} {t st : Int} {i n : Nat} {s s' : S2} (hi : i < n) (h : lvE l t st i s = .inl s') (q : RQ bl n s.1 s.2.1) (p : OL l i s.1 s.2.1) : RQ bl n s'.1 s'.2.1 ∧ OL l (i + 1) s'.1 s'.2.1 := by
 have hm := q.m
 have ho := q.o
 unfold lvE at h
 cases h1 : At s.2.1 i (Aq .b) with
 | true =>
  rw [h1] at h
  cases h
  refine ⟨q, fun j hj e => ?_⟩
  by_cases k : j = i
  ·rw [k] at e; unfold Ks at e; rw [h1] at e; cases e
  ·exact p j (by omega) e
 | false =>
  rw [h1] at h
  cases h2 : onB l (Ai s.1 i).1 with
  | true =>
   rw [h2] at h
   cases h
   refine ⟨q, fun j hj e => ?_⟩
   by_cases k : j = i
   ·rw [k]; exact h2
   ·exact p j (by omega) e
  | false =>
   rw [h2] at h
   cases h
   refine ⟨⟨(Br _ _ _).trans hm, (Br _ _ _).trans ho, fun j hj => ?_, fun j hj e => ?_⟩, fun j hj e => ?_⟩
   ·by_cases k : j = i
    ·rw [Nc (by omega) k, k]
     exact U8 (q.ok i hi) ⟨rfl, rfl⟩ rfl
    ·rw [Id (by omega) k]; exact q.ok j hj
   ·by_cases k : j = i
    ·rw [Nc (by omega) k]; rfl
    ·rw [Aga (by omega) k] at e
     rw [Id (by omega) k]; exact q.z j hj e
   ·by_cases k : j = i
    ·rw [Ayv (by omega) k] at e; cases e
    ·rw [Aga (by omega) k] at e
     rw [Id (by omega) k]; exact p j (by omega) e
theorem B7x {bl : List (TCT A4)} {l : TCT An} {t st : Int} {n : Nat} {s s' : S2} (h : mvF bl l t st n s = .inl s') (q : RQ bl n s.1 s.2.1) : RQ bl n s'.1 s'.2.1 ∧ OL l n s'.1 s'.2.1 := by
 unfold mvF at h
 cases h1 : Ag (stE bl s.2.1) 0 n s.1 with
 | inr e => rw [h1] at h; cases h
 | inl ms =>
  rw [h1] at h
  have a : RQ bl n ms s.2.1 := B8 (n := n) (Inv := fun _ (x : Af) => RQ bl n x s.2.1) (fun i x x' hi hq h => B7v hi h hq) n 0 _ _ (by omega) q h1
  have h2 : Ag (lvE l t st) 0 n (ms, s.2.1, s.2.2) = .inl s' := h
  exact B8 (n := n) (Inv := fun i (x : S2) => RQ bl n x.1 x.2.1 ∧ OL l i x.1 x.2.1) (fun i x x' hi hq h => B7w hi h hq.1 hq.2) n 0 (ms, s.2.1, s.2.2) s' (by omega) ⟨a, fun j hj => absurd hj (Nat.not_lt_zero j)⟩ h2
def SA (G M : Af) : Prop := ∀ j : Nat, arS (Ai G j) (Ai M j)
theorem SA.set {G M : Af} {i : Nat} {x : TCT Aj} (h : SA G M) (hx : arS (Ai M i) x) : SA G (B5 M i x) := fun j => by
 by_cases hi : i < M.length
 ·by_cases e : j = i
  ·rw [Nc hi e, e]
   exact ⟨hx.1.trans (h i).1, hx.2.trans (h i).2⟩
  ·rw [Id hi e]; exact h j
 ·have : B5 M i x = M := by rw [Bo]; exact List.set_eq_of_length_le (Nat.le_of_not_lt hi)
  rw [this]; exact h j
theorem B7y {a b : Bm} {k : Qf} (h : (K9 a b k).2.2.1 = 0) : (K9 a b k).1.1 = (a.px, a.py, ()) ∧ (K9 a b k).1.2.2.1 = (a.rx, a.ry, ()) ∧ (K9 a b k).2.1.1 = (b.px, b.py, ()) ∧ (K9 a b k).2.1.2.2.1 = (b.rx, b.ry, ()) := by
 unfold K9 at h ⊢
 cases h1 : k.2.1 != 0 with
 | true => rw [h1] at h; exact absurd h (bne_iff_ne.1 h1)
 | false =>
  rw [h1] at h
  simp only [cond_false] at h ⊢
  cases h2 : Ay (W64 (a.mx - k.1.1)) (W64 (a.my - k.1.2.1)) with
  | false => rw [h2] at h; cases h
  | true =>
   rw [h2] at h
   simp only [Bool.not_true, cond_false] at h ⊢
   cases h3 : Ay (W64 (b.mx + k.1.1)) (W64 (b.my + k.1.2.1)) with
   | false => rw [h3] at h; cases h
   | true => exact ⟨rfl, rfl, rfl, rfl⟩
theorem Ari {l : List (TCT A4)} {re dr : Int} {i k : Nat} {G : Af} {s s' : SS} (hik : ¬ k = i) (h : Ej l re dr i k s = some s') (hs : SA G s.1) : SA G s'.1 := by
 unfold Ej at h
 cases h1 : (Bw (bAt l s.1 i) (bAt l s.1 k) re dr).2.2.1 == 0 with
 | true =>
  rw [h1] at h
  simp only [cond_true, Option.some.injEq] at h
  subst h
  obtain ⟨b1, b2, b3, b4⟩ := B7y (a := bAt l s.1 i) (b := bAt l s.1 k) (k := T7 (bAt l s.1 i) (bAt l s.1 k) re dr) (beq_iff_eq.1 h1)
  have ha : arS (Ai s.1 i) (Bw (bAt l s.1 i) (bAt l s.1 k) re dr).1 := ⟨b1, b2⟩
  have hb : arS (Ai s.1 k) (Bw (bAt l s.1 i) (bAt l s.1 k) re dr).2.1 := ⟨b3, b4⟩
  refine SA.set (SA.set hs ha) ?_
  by_cases hi : i < s.1.length
  ·rw [Id hi hik]; exact hb
  ·have : B5 s.1 i (Bw (bAt l s.1 i) (bAt l s.1 k) re dr).1 = s.1 := by rw [Bo]; exact List.set_eq_of_length_le (Nat.le_of_not_lt hi)
   rw [this]; exact hb
 | false =>
  rw [h1, cond_false] at h
  cases h2 : (Bw (bAt l s.1 i) (bAt l s.1 k) re dr).2.2.1 == 4 with
  | true => rw [h2] at h; simp at h
  | false => rw [h2] at h; simp only [cond_false, Option.some.injEq] at h; subst h; exact hs
theorem Arj {l : List (TCT A4)} {re dr : Int} {i : Nat} {G : Af} : ∀ (f k : Nat) (s s' : SS), i < k → V.inR l re dr i f k s = some s' → SA G s.1 → SA G s'.1
 | 0, k, s, s', _, h, hs => by rw [V.inR, Option.some.injEq] at h; subst h; exact hs
 | f + 1, k, s, s', hk, h, hs => by
  rw [V.inR] at h
  cases h1 : Ej l re dr i k s with
  | none => rw [h1] at h; simp at h
  | some s1 =>
   rw [h1, Option.bind_some] at h
   exact Arj f (k + 1) s1 s' (by omega) h (Ari (by omega) h1 hs)
theorem Agb {l : List (TCT A4)} {re dr : Int} {G : Af} : ∀ (f i : Nat) (s s' : SS), Fo l re dr f i s = some s' → SA G s.1 → SA G s'.1
 | 0, i, s, s', h, hs => by rw [Rt, Option.some.injEq] at h; subst h; exact hs
 | f + 1, i, s, s', h, hs => by
  rw [K6] at h
  cases h1 : V.inR l re dr i (l.length - (i + 1)) (i + 1) s with
  | none => rw [h1] at h; simp at h
  | some s1 =>
   rw [h1, Option.bind_some] at h
   exact Agb f (i + 1) s1 s' h (Arj _ _ _ _ (by omega) h1 hs)
theorem Aj4 {l : List (TCT A4)} {s : Af} {re dr : Int} (h : (C3 l s re dr).2.2.1 = 0) : SA s (C3 l s re dr).1 := by
 unfold C3 at h ⊢
 cases h1 : J3 l s != 0 with
 | true => rw [h1, cond_true] at h; exact absurd h (bne_iff_ne.1 h1)
 | false =>
  rw [h1, cond_false] at h
  simp only [cond_false]
  cases h2 : !Hr re dr with
  | true => rw [h2] at h; cases h
  | false =>
   rw [h2, cond_false] at h
   simp only [cond_false]
   cases h3 : Fo l re dr l.length 0 (s, []) with
   | none => rw [h3] at h; cases h
   | some s' =>
    have hz : SA s ((s, []) : SS).1 := fun j => ⟨rfl, rfl⟩
    exact Agb _ _ _ _ h3 hz
structure InvH (ms : Af) (os : List Bool) (n i : Nat) (s : GA) : Prop where
 g : InvG n i s
 h : ∀ k : Nat, k < s.1.length → Ai s.2.2 k = Ai ms (Int.toNat (At s.1 k (Aq cI))) ∧ Ks os (Int.toNat (At s.1 k (Aq cI))) = false
theorem A71 {α : Type} {d : α} {l : List α} {x : α} {k : Nat} (h : k < l.length + 1) : At (l ++ [x]) k d = if k = l.length then x else At l k d := by
 rw [Ji, Ji, List.getD_eq_getElem?_getD, List.getD_eq_getElem?_getD]
 by_cases e : k = l.length
 ·rw [if_pos e, e, List.getElem?_append_right (Nat.le_refl _), Nat.sub_self]; rfl
 ·rw [if_neg e, List.getElem?_append_left (by omega)]
theorem Bed {bl : List (TCT A4)} {ms : Af} {os : List Bool} {w fl : Int} {n : Nat} (i : Nat) (s s' : GA) (hi : i < n) (h : InvH ms os n i s) (h2 : gaE bl ms os w fl i s = .inl s') : InvH ms os n (i + 1) s' := by
 have hg := A2k i s s' hi h.g h2
 refine ⟨hg, ?_⟩
 unfold gaE at h2
 cases hc : !At os i (Aq .b) && !El w fl i with
 | false => rw [hc] at h2; cases h2; exact h.h
 | true =>
  rw [hc] at h2
  cases h2
  have hm := h.g.m
  have ho : Ks os i = false := by
   unfold Ks
   rw [Bool.and_eq_true] at hc
   simpa using hc.1
  intro k hk
  have hk2 : k < (s.1 ++ [(i : Int)]).length := hk
  have hk' : k < s.1.length + 1 := by rw [List.length_append, List.length_singleton] at hk2; exact hk2
  show At (s.2.2 ++ [Ai ms i]) k (Aq Aj) = Ai ms (Int.toNat (At (s.1 ++ [(i : Int)]) k (Aq cI))) ∧ Ks os (Int.toNat (At (s.1 ++ [(i : Int)]) k (Aq cI))) = false
  rw [A71 (by omega), A71 hk']
  by_cases e : k = s.1.length
  ·rw [if_pos e, if_pos (by omega)]
   exact ⟨rfl, ho⟩
  ·rw [if_neg e, if_neg (by omega)]
   exact h.h k (by omega)
theorem Bee {bl : List (TCT A4)} {ms : Af} {os : List Bool} {w fl : Int} {n : Nat} : InvH ms os n n (gaV bl w fl n ms os) :=
 B8 (n := n) (Inv := InvH ms os n) (fun i s s' hi h h2 => Bed (bl := bl) (w := w) (fl := fl) i s s' hi h h2) n 0 ([], [], []) _ (by omega) ⟨⟨rfl, rfl, Nat.le_refl _, fun w hw => nomatch hw⟩, fun k hk => absurd hk (Nat.not_lt_zero k)⟩ (Rk (Ag (gaE bl ms os w fl) 0 n ([], [], [])))
structure RK (bl : List (TCT A4)) (n : Nat) (ms0 ms : Af) (os : List Bool) : Prop where
 q : RQ bl n ms os
 a : ∀ j : Nat, (Ai ms j).1 = (Ai ms0 j).1
theorem RK.ol {bl : List (TCT A4)} {l : TCT An} {n : Nat} {ms0 ms : Af} {os : List Bool} (k : RK bl n ms0 ms os) (p : OL l n ms0 os) : OL l n ms os := fun j hj h => by rw [k.a j]; exact p j hj h
theorem RK.set {bl : List (TCT A4)} {n i : Nat} {ms0 ms : Af} {os : List Bool} {x : TCT Aj} (k : RK bl n ms0 ms os) (hi : i < n) (hx : Px (D9 bl i) x = true) (ho : Ks os i = false) (hp : x.1 = (Ai ms0 i).1) : RK bl n ms0 (B5 ms i x) os := by
 have hm := k.q.m
 refine ⟨k.q.set hi hx ho, fun j => ?_⟩
 by_cases e : j = i
 ·rw [Nc (by omega) e, hp, e]
 ·rw [Id (by omega) e]; exact k.a j
theorem B7z {bl : List (TCT A4)} {c : TCT D5} {t st w fl : Int} {n : Nat} {s : S2} {r : Af × Kns} (h : seF bl c t st w fl n s = .inl r) (q : RQ bl n s.1 s.2.1) : RK bl n s.1 r.1 s.2.1 := by
 unfold seF at h
 cases he : (seS bl c w fl n s).2.2.1 != 0 with
 | true => rw [he] at h; cases h
 | false =>
  rw [he] at h
  cases h
  have e0 := bne_eq_false_iff_eq.1 he
  have hG : InvH s.1 s.2.1 n n (seG bl w fl n s) := Bee
  have hA : SA (seG bl w fl n s).2.2 (seS bl c w fl n s).1 := Aj4 e0
  have hS : SM (seS bl c w fl n s).1 := A0u e0
  exact B8 (n := (seG bl w fl n s).1.length) (Inv := fun _ (x : Af) => RK bl n s.1 x s.2.1) (fun k x x' hk hx h2 => by
   cases h2
   obtain ⟨g1, g2⟩ := hG.h k hk
   have hr := hG.g.r _ (Aum hk (Aq cI))
   have hj : Int.toNat (At (seG bl w fl n s).1 k (Aq cI)) < n := by omega
   have ha := hA k
   rw [g1] at ha
   exact hx.set hj (U8 (q.ok _ hj) ha (hS k)) g2 ha.1) (seG bl w fl n s).1.length 0 s.1 _ (by omega) ⟨q, fun _ => rfl⟩ (Rk (Ag (scE (seG bl w fl n s).1 (seS bl c w fl n s).1) 0 (seG bl w fl n s).1.length s.1))
theorem Ark {b : TCT A4} {m : TCT Aj} {d : TCT Al} {c : TCT D5} (h : (bmV b m d c).2.1 = 0) : Px b (bmV b m d c).1 = true ∧ (bmV b m d c).1.1 = m.1 := by
 unfold bmV A8a at h ⊢
 cases h1 : (bm b m).ok && (Iw d.1.1 d.1.2.1 d.2.1 && Hr c.1 c.2.1) with
 | false => rw [h1] at h; cases h
 | true =>
  rw [h1] at h
  simp only [Bool.not_true, cond_false] at h ⊢
  cases h2 : Fi (bm b m).px (bm b m).py d.1.1 d.1.2.1 ((bm b m).r + d.2.1) with
  | false => rw [h2] at h; cases h
  | true =>
   rw [h2] at h
   simp only [Bool.not_true, cond_false] at h ⊢
   cases h3 : decide (dN (bm b m) d.1.1 d.1.2.1 ≤ 0) with
   | true => rw [h3] at h; cases h
   | false =>
    rw [h3] at h
    simp only [cond_false] at h ⊢
    cases h4 : Ay (W64 ((bm b m).mx - (kK (d.1.1 - (bm b m).px) (d.1.2.1 - (bm b m).py) (bm b m).mx (bm b m).my c.1 c.2.1 1).1)) (W64 ((bm b m).my - (kK (d.1.1 - (bm b m).px) (d.1.2.1 - (bm b m).py) (bm b m).mx (bm b m).my c.1 c.2.1 1).2)) with
    | false => rw [h4] at h; cases h
    | true =>
     simp only [Bool.not_true, cond_false]
     rw [Bool.and_eq_true] at h1
     have hm : Px b m = true := h1.1
     exact ⟨U8 hm ⟨rfl, rfl⟩ h4, rfl⟩
theorem B80 {bl : List (TCT A4)} {c : TCT D5} {ps : Dss} {os : List Bool} {w fl t st : Int} {i n k : Nat} {ms0 : Af} {s : MK} (hi : i < n) (q : RK bl n ms0 s.1 os) : (∀ s', bpE (D9 bl i) c ps os w fl t st i k s = .inl s' → RK bl n ms0 s'.1 os) ∧ (∀ s', bpE (D9 bl i) c ps os w fl t st i k s = .inr (.inl s') → s' = s) := by
 unfold bpE
 cases h1 : !C1 s.1 os i || El w fl i with
 | true => exact ⟨(fun s' h => by cases h), (fun s' h => by cases h; rfl)⟩
 | false =>
  rw [Bool.or_eq_false_iff] at h1
  simp only [cond_false]
  cases h2 : (bmV (D9 bl i) (Ai s.1 i) (C9 ps k) c).2.1 == 0 with
  | true =>
   refine ⟨(fun s' h => ?_), (fun s' h => by cases h)⟩
   cases h
   have b := Ark (beq_iff_eq.1 h2)
   exact q.set hi b.1 (Wi h1.1) (b.2.trans (q.a i))
  | false =>
   simp only [cond_false]
   cases h3 : (bmV (D9 bl i) (Ai s.1 i) (C9 ps k) c).2.1 == 4 with
   | true => exact ⟨(fun s' h => by cases h), (fun s' h => by cases h)⟩
   | false => exact ⟨(fun s' h => by cases h; exact q), (fun s' h => by cases h)⟩
theorem Arl {bl : List (TCT A4)} {c : TCT D5} {ps : Dss} {os : List Bool} {w fl t st : Int} {i n : Nat} {ms0 : Af} (hi : i < n) : ∀ (j k : Nat) (s s' : MK), RK bl n ms0 s.1 os → A65 (Ag (bpE (D9 bl i) c ps os w fl t st i) k j s) = .inl s' → RK bl n ms0 s'.1 os
 | 0, k, s, s', q, h => by cases h; exact q
 | j + 1, k, s, s', q, h => by
  unfold Ag at h
  have a := B80 (c := c) (ps := ps) (w := w) (fl := fl) (t := t) (st := st) (k := k) hi q
  cases hf : bpE (D9 bl i) c ps os w fl t st i k s with
  | inl t1 => rw [hf] at h; exact Arl hi j (k + 1) t1 s' (a.1 t1 hf) h
  | inr y =>
   rw [hf] at h
   cases y with
   | inl t1 =>
    have e := a.2 t1 hf
    subst e
    cases h
    exact q
   | inr e => cases h
theorem B81 {bl : List (TCT A4)} {c : TCT D5} {ps : Dss} {t st w fl : Int} {n : Nat} {s : S2} {s' : MK} (h : buF bl c ps t st w fl n s = .inl s') (q : RQ bl n s.1 s.2.1) : RK bl n s.1 s'.1 s.2.1 := by
 unfold buF at h
 exact B8 (n := n) (Inv := fun _ (x : MK) => RK bl n s.1 x.1 s.2.1) (fun i x x' hi hx h2 => Arl hi ps.length 0 x x' hx h2) n 0 (s.1, s.2.2) s' (by omega) ⟨q, fun _ => rfl⟩ h
theorem B82 {k : CT} {i : Nat} {s s' : S2} (h : tkE k i s = .inl s') (q : RQ k.bl k.bl.length s.1 s.2.1) : RQ k.bl k.bl.length s'.1 s'.2.1 ∧ OL k.l k.bl.length s'.1 s'.2.1 := by
 unfold tkE at h
 cases h1 : mvF k.bl k.l k.t ((i + 1 : Nat) : Int) k.bl.length s with
 | inr e => rw [h1] at h; cases h
 | inl s1 =>
  rw [h1] at h
  simp only at h
  have a := B7x h1 q
  cases h2 : seF k.bl k.c k.t ((i + 1 : Nat) : Int) k.w k.fl k.bl.length s1 with
  | inr e => rw [h2] at h; cases h
  | inl s2 =>
   rw [h2] at h
   simp only at h
   have b := B7z h2 a.1
   cases h3 : buF k.bl k.c k.ps k.t ((i + 1 : Nat) : Int) k.w k.fl k.bl.length (s2.1, s1.2.1, s2.2) with
   | inr e => rw [h3] at h; cases h
   | inl s3 =>
    rw [h3] at h
    cases h
    have d := B81 h3 b.q
    exact ⟨d.q, d.ol (b.ol a.2)⟩
theorem B83 {k : CT} {s s' : S2} (h : tkF k s = .inl s') (q : RQ k.bl k.bl.length s.1 s.2.1) (p : OL k.l k.bl.length s.1 s.2.1) : RQ k.bl k.bl.length s'.1 s'.2.1 ∧ OL k.l k.bl.length s'.1 s'.2.1 := by
 unfold tkF at h
 cases h0 : k.t == 4000 with
 | true => rw [h0] at h; cases h
 | false =>
  rw [h0] at h
  simp only [cond_false] at h
  cases h1 : Ag (slE k.l s.2.1 k.w k.fl) 0 k.bl.length s.1 with
  | inr e => rw [h1] at h; cases h
  | inl ms =>
   rw [h1] at h
   have a : RQ k.bl k.bl.length ms s.2.1 ∧ OL k.l k.bl.length ms s.2.1 := B8 (n := k.bl.length) (Inv := fun _ (x : Af) => RQ k.bl k.bl.length x s.2.1 ∧ OL k.l k.bl.length x s.2.1) (fun i x x' hi hq h => B7u hi h hq.1 hq.2) k.bl.length 0 _ _ (by omega) ⟨q, p⟩ h1
   have h2 : Ag (tkE k) 0 16 (ms, s.2.1, s.2.2) = .inl s' := h
   exact B8 (n := 16) (Inv := fun _ (x : S2) => RQ k.bl k.bl.length x.1 x.2.1 ∧ OL k.l k.bl.length x.1 x.2.1) (fun i x x' _ hq h => B82 h hq.1) 16 0 (ms, s.2.1, s.2.2) s' (by omega) a h2
theorem Agc {α : Type} {ok : Nat → α → Bool} {d : α} : ∀ (l : List α) (i : Nat), (∀ j, j < l.length → ok (i + j) (At l j d) = true) → Gy ok i l = true
 | [], _, _ => rfl
 | x :: l, i, h => by
  unfold Gy
  rw [Bool.and_eq_true]
  refine ⟨h 0 (by simp), Agc (d := d) l (i + 1) fun j hj => ?_⟩
  have := h (j + 1) (by simpa using hj)
  rw [show i + (j + 1) = i + 1 + j by omega] at this
  exact this
theorem Agd {α : Type} {ok : Nat → α → Bool} {d : α} : ∀ (l : List α) (i : Nat), Gy ok i l = true → ∀ j, j < l.length → ok (i + j) (At l j d) = true
 | [], _, _, j, hj => absurd hj (Nat.not_lt_zero j)
 | x :: l, i, h, j, hj => by
  simp only [Gy, Bool.and_eq_true] at h
  cases j with
  | zero => exact h.1
  | succ j =>
   have := Agd (d := d) l (i + 1) h.2 j (by simpa using hj)
   rw [show i + (j + 1) = i + 1 + j by omega]
   exact this
theorem B84 {g : TCT cGr} {s : TCT cSt} (h : StaOk g s) : RQ (A3 g) (A3 g).length (msT s) (osT s) ∧ OL g.1 (A3 g).length (msT s) (osT s) := by
 have hm := h.m
 have key : ∀ j, j < (A3 g).length → okO g.1 (D9 (A3 g) j) (Ks (osT s) j) (Ai (msT s) j) = true := fun j hj => by
  have := Agd (d := Aq Aj) (msT s) 0 h.ok j (by omega)
  rw [Nat.zero_add] at this
  exact this
 refine ⟨⟨h.m, h.o, fun j hj => ?_, fun j hj e => ?_⟩, fun j hj e => ?_⟩
 ·have := key j hj
  unfold okO at this
  rw [Bool.and_eq_true] at this
  exact this.1
 ·have := key j hj
  unfold okO at this
  rw [e, Bool.and_eq_true, cond_true, Bool.and_true] at this
  exact this.2
 ·have := key j hj
  unfold okO at this
  rw [e, Bool.and_eq_true, cond_false] at this
  exact this.2
theorem B85 {g : TCT cGr} {s : TCT cSt} (hg : groE g = 0) (n1 : 1 ≤ (A3 g).length) (n8 : (A3 g).length ≤ 8) (q : RQ (A3 g) (A3 g).length (msT s) (osT s)) (p : OL g.1 (A3 g).length (msT s) (osT s)) (hn : A5t (A3 g).length s = false) : StaOk g s := by
 have hm := q.m
 refine ⟨hg, n1, n8, q.m, q.o, Agc (d := Aq Aj) (msT s) 0 fun j hj => ?_, hn⟩
 rw [Nat.zero_add]
 show okO g.1 (D9 (A3 g) j) (Ks (osT s) j) (Ai (msT s) j) = true
 unfold okO
 rw [q.ok j (by omega), Bool.true_and]
 cases e : Ks (osT s) j with
 | true => rw [cond_true, Bool.and_true]; exact q.z j (by omega) e
 | false => rw [cond_false]; exact p j (by omega) e
end St
def O1 {A B C D : Type} (f : A → C) (g : B → D) : A ⊕ B → C ⊕ D
 | .inl a => .inl (f a)
 | .inr b => .inr (g b)
theorem Ij {S B : Type} {f : Nat → S → S ⊕ B} {φ : S → S} {ψ : B → B} (h : ∀ i s, f i (φ s) = O1 φ ψ (f i s)) : ∀ (k i : Nat) (s : S), Ag f i k (φ s) = O1 φ ψ (Ag f i k s)
 | 0, _, _ => rfl
 | k + 1, i, s => by
  unfold Ag
  rw [h]
  cases f i s with
  | inl s' => exact Ij h k (i + 1) s'
  | inr b => rfl
namespace St
def a2 (ks : Kns) (s : S2) : S2 := (s.1, s.2.1, ks ++ s.2.2)
def aM (ks : Kns) (s : MK) : MK := (s.1, ks ++ s.2)
theorem Ayx {l : TCT An} {t st : Int} {ks : Kns} (i : Nat) (s : S2) : lvE l t st i (a2 ks s) = O1 (a2 ks) id (lvE l t st i s) := by
 unfold lvE a2
 simp only
 cases At s.2.1 i (Aq .b) with
 | true => rfl
 | false =>
  cases onB l (Ai s.1 i).1 with
  | true => rfl
  | false => simp only [Bool.not_false, cond_true, List.append_assoc]; rfl
theorem Ayy {bl : List (TCT A4)} {l : TCT An} {t st : Int} {n : Nat} {ks : Kns} (s : S2) : mvF bl l t st n (a2 ks s) = O1 (a2 ks) id (mvF bl l t st n s) := by
 unfold mvF
 show (match Ag (stE bl s.2.1) 0 n s.1 with
  | .inl ms => Ag (lvE l t st) 0 n (a2 ks (ms, s.2.1, s.2.2))
  | .inr e => .inr e) = _
 cases Ag (stE bl s.2.1) 0 n s.1 with
 | inl ms => exact Ij (fun i s => Ayx i s) n 0 (ms, s.2.1, s.2.2)
 | inr e => rfl
theorem Ayz {S : Type} {φ : S → S} {ψ : Empty → Empty} (y : S ⊕ Empty) : unE (O1 φ ψ y) = φ (unE y) := by
 cases y with
 | inl s => rfl
 | inr e => exact nomatch e
theorem Az0 {W : List Int} {P : Prs} {t st : Int} {ks x : Kns} : kpV W P t st (ks ++ x) = ks ++ kpV W P t st x := by
 unfold kpV
 rw [Ij (φ := fun y : Kns => ks ++ y) (ψ := id) (fun i s => by unfold kpE O1; rw [List.append_assoc])]
 exact Ayz _
theorem Az1 {bl : List (TCT A4)} {c : TCT D5} {t st w fl : Int} {n : Nat} {ks : Kns} (s : S2) : seF bl c t st w fl n (a2 ks s) = O1 (aM ks) id (seF bl c t st w fl n s) := by
 unfold seF
 show (bif (seS bl c w fl n s).2.2.1 != 0 then .inr (seS bl c w fl n s).2.2.1 else .inl (scV (seG bl w fl n s).1 (seS bl c w fl n s).1 s.1, kpV (seG bl w fl n s).1 (seS bl c w fl n s).2.1 t st (ks ++ s.2.2)) : MK ⊕ Int) = _
 rw [Az0]
 cases (seS bl c w fl n s).2.2.1 != 0 <;> rfl
theorem Az2 {b : TCT A4} {c : TCT D5} {ps : Dss} {os : List Bool} {w fl t st : Int} {i : Nat} {ks : Kns} (k : Nat) (s : MK) : bpE b c ps os w fl t st i k (aM ks s) = O1 (aM ks) (O1 (aM ks) id) (bpE b c ps os w fl t st i k s) := by
 unfold bpE aM
 simp only
 cases !C1 s.1 os i || El w fl i with
 | true => rfl
 | false =>
  cases (bmV b (Ai s.1 i) (C9 ps k) c).2.1 == 0 with
  | true => simp only [cond_false, cond_true, List.append_assoc]; rfl
  | false => cases (bmV b (Ai s.1 i) (C9 ps k) c).2.1 == 4 <;> rfl
theorem Arm {φ : MK → MK} (y : MK ⊕ (MK ⊕ Int)) : A65 (O1 φ (O1 φ id) y) = O1 φ id (A65 y) := by
 cases y with
 | inl s => rfl
 | inr z => cases z <;> rfl
theorem Az3 {bl : List (TCT A4)} {c : TCT D5} {ps : Dss} {t st w fl : Int} {n : Nat} {ks : Kns} (s : S2) : buF bl c ps t st w fl n (a2 ks s) = O1 (aM ks) id (buF bl c ps t st w fl n s) := by
 unfold buF
 exact Ij (φ := aM ks) (ψ := id) (fun i s => by unfold boE; rw [Ij (fun k s => Az2 k s)]; exact Arm _) n 0 (s.1, s.2.2)
theorem Az4 {k : CT} {ks : Kns} (i : Nat) (s : S2) : tkE k i (a2 ks s) = O1 (a2 ks) id (tkE k i s) := by
 unfold tkE
 rw [Ayy]
 cases mvF k.bl k.l k.t ((i + 1 : Nat) : Int) k.bl.length s with
 | inr e => rfl
 | inl s1 =>
  show ((match seF k.bl k.c k.t ((i + 1 : Nat) : Int) k.w k.fl k.bl.length (a2 ks s1) with
   | .inr e => .inr e
   | .inl s2 => match buF k.bl k.c k.ps k.t ((i + 1 : Nat) : Int) k.w k.fl k.bl.length (s2.1, s1.2.1, s2.2) with
    | .inr e => .inr e
    | .inl s3 => .inl (s3.1, s1.2.1, s3.2)) : S2 ⊕ Int) = _
  rw [Az1]
  simp only
  cases seF k.bl k.c k.t ((i + 1 : Nat) : Int) k.w k.fl k.bl.length s1 with
  | inr e => rfl
  | inl s2 =>
   show ((match buF k.bl k.c k.ps k.t ((i + 1 : Nat) : Int) k.w k.fl k.bl.length (a2 ks (s2.1, s1.2.1, s2.2)) with
    | .inr e => .inr e
    | .inl s3 => .inl (s3.1, s1.2.1, s3.2)) : S2 ⊕ Int) = _
   rw [Az3]
   simp only
   cases buF k.bl k.c k.ps k.t ((i + 1 : Nat) : Int) k.w k.fl k.bl.length (s2.1, s1.2.1, s2.2) <;> rfl
theorem Az5 {k : CT} {ks : Kns} (s : S2) : tkF k (a2 ks s) = O1 (a2 ks) id (tkF k s) := by
 unfold tkF
 show ((bif k.t == 4000 then .inr 3 else match Ag (slE k.l s.2.1 k.w k.fl) 0 k.bl.length s.1 with
  | .inr e => .inr e
  | .inl ms => Ag (tkE k) 0 16 (a2 ks (ms, s.2.1, s.2.2))) : S2 ⊕ Int) = _
 cases k.t == 4000 with
 | true => rfl
 | false =>
  simp only [cond_false]
  cases Ag (slE k.l s.2.1 k.w k.fl) 0 k.bl.length s.1 with
  | inr e => rfl
  | inl ms => exact Ij (fun i s => Az4 i s) 16 0 (ms, s.2.1, s.2.2)
theorem B86 {k : CT} {ms : Af} {os : List Bool} {ks : Kns} : tkF k (ms, os, ks) = O1 (a2 ks) id (tkF k (ms, os, [])) := by
 have := Az5 (k := k) (ks := ks) (ms, os, [])
 unfold a2 at this
 simp only [List.append_nil] at this
 exact this
def nxS (s : TCT cSt) (r : S2) : TCT cSt := (r.1, r.2.1, s.2.2.1, max 0 (W64 (s.2.2.2.1 - 1)), W64 (s.2.2.2.2.1 + 1), ())
theorem B87 {n a b c : Int} (h1 : 0 ≤ a ∧ a < n) (h2 : 0 ≤ b ∧ b ≤ 8) (h3 : 0 ≤ c ∧ c ≤ 4000) : (decide (a < 0) || (decide (a ≥ n) || (decide (b < 0) || (decide (b > 8) || (decide (c < 0) || decide (c > 4000)))))) = false := by
 simp only [Bool.or_eq_false_iff, decide_eq_false_iff_not]
 omega
theorem B88 {n a b c : Int} (h : (decide (a < 0) || (decide (a ≥ n) || (decide (b < 0) || (decide (b > 8) || (decide (c < 0) || decide (c > 4000)))))) = false) : (0 ≤ a ∧ a < n) ∧ (0 ≤ b ∧ b ≤ 8) ∧ (0 ≤ c ∧ c ≤ 4000) := by
 simp only [Bool.or_eq_false_iff, decide_eq_false_iff_not] at h
 omega
theorem B89 {b c : Int} (h2 : 0 ≤ b ∧ b ≤ 8) (h3 : 0 ≤ c ∧ c ≤ 4000) (h4 : ¬ c = 4000) : (0 ≤ max 0 (W64 (b - 1)) ∧ max 0 (W64 (b - 1)) ≤ 8) ∧ (0 ≤ W64 (c + 1) ∧ W64 (c + 1) ≤ 4000) := by
 rw [Bv (n := b - 1) (by omega) (by omega), Bv (n := c + 1) (by omega) (by omega)]
 omega
theorem Arn {g : TCT cGr} {s : TCT cSt} {ks : Kns} {r : S2} (h : StaOk g s) (ht : tkF (ctS g s) (msT s, osT s, ks) = .inl r) : StaOk g (nxS s r) := by
 have a := B84 h
 have b := B83 (k := ctS g s) (s := (msT s, osT s, ks)) ht a.1 a.2
 have hn : (0 ≤ s.2.2.1 ∧ s.2.2.1 < ((A3 g).length : Int)) ∧ (0 ≤ s.2.2.2.1 ∧ s.2.2.2.1 ≤ 8) ∧ (0 ≤ s.2.2.2.2.1 ∧ s.2.2.2.2.1 ≤ 4000) := B88 h.num
 have h4 : ¬ s.2.2.2.2.1 = 4000 := by
  intro e
  unfold tkF at ht
  rw [show ((ctS g s).t == 4000) = true from beq_iff_eq.2 e] at ht
  cases ht
 have c := B89 hn.2.1 hn.2.2 h4
 exact B85 h.gr h.n1 h.n8 b.1 b.2 (B87 hn.1 c.1 c.2)
def trS (g : TCT cGr) (b : Int) : Nat → TCT cSt → Kns → Fh → (TCT cSt × Kns × Fh) ⊕ Int
 | 0, s, ks, t => bif decide ((ks.length : Int) > 4096) then .inr 6 else .inl (s, ks, t ++ [atS s b])
 | n + 1, s, ks, t => bif decide ((ks.length : Int) > 4096) then .inr 6 else bif !C0 s then match tkF (ctS g s) (msT s, osT s, ks) with
  | .inl r => trS g b n (nxS s r) r.2.2 (t ++ [atS s b])
  | .inr e => .inr e
  else .inl (s, ks, t ++ [atS s b])
where atS (s : TCT cSt) (b : Int) : TCT cPt := ((Ai (msT s) (Int.toNat b)).1.1, (Ai (msT s) (Int.toNat b)).1.2.1, ())
def rnS (g : TCT cGr) : Nat → TCT cSt → Kns → (TCT cSt × Kns) ⊕ Int
 | 0, s, ks => bif decide ((ks.length : Int) > 4096) then .inr 6 else .inl (s, ks)
 | n + 1, s, ks => bif decide ((ks.length : Int) > 4096) then .inr 6 else bif !C0 s then match tkF (ctS g s) (msT s, osT s, ks) with
  | .inl r => rnS g n (nxS s r) r.2.2
  | .inr e => .inr e
  else .inl (s, ks)
def gZ (g : TCT cGr) (s : TCT cSt) (stp : Int) (ks : Kns) : GB := ((g.1.1, g.1.2.1, g.1.2.2.1, g.1.2.2.2.1, g.1.2.2.2.2.1, g.1.2.2.2.2.2.1.1.1, g.1.2.2.2.2.2.1.1.2.1, g.1.2.2.2.2.2.1.2.1, g.1.2.2.2.2.2.2.1, g.1.2.2.2.2.2.2.2.1, g.1.2.2.2.2.2.2.2.2.1, g.2.1, g.2.2.1.1, g.2.2.1.2.1, G1 g.1, s.1, s.2.1, s.2.2.1, s.2.2.2.1, s.2.2.2.2.1, stp, ((), (), ()), ()), (ks, ()), ())
def Abv : (TCT cSt × Kns) ⊕ Int → TkR
 | .inl r => ((r.1.1, r.1.2.1, r.1.2.2.1, r.1.2.2.2.1, r.1.2.2.2.2.1, ()), r.2, 0, ())
 | .inr e => Gt e
theorem A72 {g : TCT cGr} : ∀ (n : Nat) (s : TCT cSt) (stp : Int) (ks : Kns), Aj1 (O0 n (gZ g s stp ks)) = Abv (rnS g n s ks)
 | 0, s, stp, ks => by
  show Aj1 (bif decide ((ks.length : Int) > 4096) then .inr 6 else .inl (gZ g s stp ks)) = Abv (bif decide ((ks.length : Int) > 4096) then .inr 6 else .inl (s, ks))
  cases decide ((ks.length : Int) > 4096) <;> rfl
 | n + 1, s, stp, ks => by
  show Aj1 (bif decide ((ks.length : Int) > 4096) then .inr 6 else bif !C0 (stG (gZ g s stp ks).1) then match tkF (ctS g s) (msT s, osT s, ks) with
   | .inl r => O0 n (gZ g (nxS s r) 17 r.2.2)
   | .inr e => .inr e
   else .inl (gZ g s stp ks)) = Abv (bif decide ((ks.length : Int) > 4096) then .inr 6 else bif !C0 s then match tkF (ctS g s) (msT s, osT s, ks) with
   | .inl r => rnS g n (nxS s r) r.2.2
   | .inr e => .inr e
   else .inl (s, ks))
  cases decide ((ks.length : Int) > 4096) with
  | true => rfl
  | false =>
   show Aj1 (bif !C0 s then match tkF (ctS g s) (msT s, osT s, ks) with
    | .inl r => O0 n (gZ g (nxS s r) 17 r.2.2)
    | .inr e => .inr e
    else .inl (gZ g s stp ks)) = Abv (bif !C0 s then match tkF (ctS g s) (msT s, osT s, ks) with
    | .inl r => rnS g n (nxS s r) r.2.2
    | .inr e => .inr e
    else .inl (s, ks))
   cases C0 s with
   | true => rfl
   | false =>
    simp only [Bool.not_false, cond_true]
    cases tkF (ctS g s) (msT s, osT s, ks) with
    | inr e => rfl
    | inl r => exact A72 n (nxS s r) 17 r.2.2
theorem Aro {g : TCT cGr} {s : TCT cSt} {n : Int} : Ll g s n = bif Ee g s != 0 then Gt (Ee g s) else bif decide (n < 0) || decide (n > 4000) then Gt 3 else Abv (rnS g (Int.toNat n) s []) := by
 unfold Ll
 rw [show Aj1 (O0 (Int.toNat n) (gT g s)) = Abv (rnS g (Int.toNat n) s []) from A72 (Int.toNat n) s 0 []]
def A73 : (TCT cSt × Kns × Fh) ⊕ Int → TrR
 | .inl r => (r.2.2, 0, ())
 | .inr e => ([], e, ())
theorem A74 {g : TCT cGr} {b : Int} : ∀ (n : Nat) (s : TCT cSt) (stp : Int) (ks : Kns) (t : Fh), Ar9 (P0 b n (gZ g s stp ks) t) = A73 (trS g b n s ks t)
 | 0, s, stp, ks, t => by
  show Ar9 (bif decide ((ks.length : Int) > 4096) then .inr 6 else .inl (gZ g s stp ks, t ++ [trS.atS s b])) = A73 (bif decide ((ks.length : Int) > 4096) then .inr 6 else .inl (s, ks, t ++ [trS.atS s b]))
  cases decide ((ks.length : Int) > 4096) <;> rfl
 | n + 1, s, stp, ks, t => by
  show Ar9 (bif decide ((ks.length : Int) > 4096) then .inr 6 else bif !C0 s then match tkF (ctS g s) (msT s, osT s, ks) with
   | .inl r => P0 b n (gZ g (nxS s r) 17 r.2.2) (t ++ [trS.atS s b])
   | .inr e => .inr e
   else .inl (gZ g s stp ks, t ++ [trS.atS s b])) = A73 (bif decide ((ks.length : Int) > 4096) then .inr 6 else bif !C0 s then match tkF (ctS g s) (msT s, osT s, ks) with
   | .inl r => trS g b n (nxS s r) r.2.2 (t ++ [trS.atS s b])
   | .inr e => .inr e
   else .inl (s, ks, t ++ [trS.atS s b]))
  cases decide ((ks.length : Int) > 4096) with
  | true => rfl
  | false =>
   simp only [cond_false]
   cases C0 s with
   | true => rfl
   | false =>
    simp only [Bool.not_false, cond_true]
    cases tkF (ctS g s) (msT s, osT s, ks) with
    | inr e => rfl
    | inl r => exact A74 n (nxS s r) 17 r.2.2 (t ++ [trS.atS s b])
theorem Aj5 {g : TCT cGr} {s : TCT cSt} {b n : Int} : I2 g s b n = bif Ee g s != 0 then ([], Ee g s, ()) else bif decide (b < 0) || (decide (b ≥ ((A3 g).length : Int)) || (decide (n < 0) || decide (n > 4000))) then ([], 3, ()) else A73 (trS g b (Int.toNat n) s [] []) := by
 unfold I2
 rw [show Ar9 (P0 b (Int.toNat n) (gT g s) []) = A73 (trS g b (Int.toNat n) s [] []) from A74 (Int.toNat n) s 0 [] []]
theorem Arp {g : TCT cGr} (s : TCT cSt) (ks : Kns) : rnS g 0 s ks = bif decide ((ks.length : Int) > 4096) then .inr 6 else .inl (s, ks) := rfl
theorem Arq {g : TCT cGr} (n : Nat) (s : TCT cSt) (ks : Kns) : rnS g (n + 1) s ks = bif decide ((ks.length : Int) > 4096) then .inr 6 else bif !C0 s then match tkF (ctS g s) (msT s, osT s, ks) with
  | .inl r => rnS g n (nxS s r) r.2.2
  | .inr e => .inr e
  else .inl (s, ks) := rfl
theorem Wj {g : TCT cGr} {b : Int} (s : TCT cSt) (ks : Kns) (t : Fh) : trS g b 0 s ks t = bif decide ((ks.length : Int) > 4096) then .inr 6 else .inl (s, ks, t ++ [trS.atS s b]) := rfl
theorem Wl {g : TCT cGr} {b : Int} (n : Nat) (s : TCT cSt) (ks : Kns) (t : Fh) : trS g b (n + 1) s ks t = bif decide ((ks.length : Int) > 4096) then .inr 6 else bif !C0 s then match tkF (ctS g s) (msT s, osT s, ks) with
  | .inl r => trS g b n (nxS s r) r.2.2 (t ++ [trS.atS s b])
  | .inr e => .inr e
  else .inl (s, ks, t ++ [trS.atS s b]) := rfl
theorem Age {g : TCT cGr} {b : Int} : ∀ (n : Nat) (s : TCT cSt) (ks : Kns) (t : Fh), match trS g b n s ks t with
  | .inl r => rnS g n s ks = .inl (r.1, r.2.1) ∧ ∃ t0, r.2.2 = t0 ++ [trS.atS r.1 b]
  | .inr e => rnS g n s ks = .inr e
 | 0, s, ks, t => by
  rw [Wj, Arp]
  cases decide ((ks.length : Int) > 4096) with
  | true => rfl
  | false => exact ⟨rfl, t, rfl⟩
 | n + 1, s, ks, t => by
  rw [Wl, Arq]
  cases decide ((ks.length : Int) > 4096) with
  | true => rfl
  | false =>
   cases C0 s with
   | true => exact ⟨rfl, t, rfl⟩
   | false =>
    simp only [Bool.not_false, cond_true, cond_false]
    cases tkF (ctS g s) (msT s, osT s, ks) with
    | inr e => rfl
    | inl r => exact Age n (nxS s r) r.2.2 (t ++ [trS.atS s b])
end St
end V
end Go.Proofs.YtkiaifmbbnnliaaGreat
