import Derived.Test.YtkiaifmbbnnliaaGreatCq
namespace Go.Proofs.YtkiaifmbbnnliaaGreat
open Go.RowKit
namespace V
namespace St
def Wf (k : Int) : Int := bif 1 == k then 150 else bif 2 == k then 500 else bif 3 == k then 900 else 0
def Ayb (k : Int) : Bool := decide (max k (W64 (0 - k)) > 16777216)
abbrev cBw : TC := .st [cI, cPt, cI, cI]
theorem Ow {α : Type} {d : α} (l : List α) (i j : Nat) (x : α) : At (B5 l i x) j d = x ∨ At (B5 l i x) j d = At l j d := by
 rw [Bo, Ji, Ji, List.getD_eq_getElem?_getD, List.getD_eq_getElem?_getD, List.getElem?_set]
 by_cases h : i = j
 ·subst h
  rw [if_pos rfl]
  by_cases h2 : i < l.length
  ·rw [if_pos h2]; exact .inl rfl
  ·rw [if_neg h2, List.getElem?_eq_none (Nat.le_of_not_lt h2)]; exact .inr rfl
 ·rw [if_neg h]; exact .inr rfl
def smB (m : TCT Aj) : Bool := Ay m.2.1.1 m.2.1.2.1
def SM (l : Af) : Prop := ∀ j : Nat, smB (Ai l j) = true
theorem SM.set {l : Af} {i : Nat} {x : TCT Aj} (h : SM l) (hx : smB x = true) : SM (B5 l i x) := fun j => by
 unfold Ai
 rcases Ow (d := Aq Aj) l i j x with e | e
 ·rw [e]; exact hx
 ·rw [e]; exact h j
theorem B79 {a b : Bm} {k : Qf} (h : (K9 a b k).2.2.1 = 0) : smB (K9 a b k).1 = true ∧ smB (K9 a b k).2.1 = true := by
 unfold K9 at h ⊢
 cases h1 : k.2.1 != 0 with
 | true => rw [h1] at h; exact absurd h (bne_iff_ne.1 h1)
 | false =>
  rw [h1] at h
  simp only [cond_false] at h ⊢
  cases h2 : Ay (W64 (a.mx - k.1.1)) (W64 (a.my - k.1.2.1)) with
  | false => rw [h2] at h; cases h
  | true =>
   rw [h2] at h
   simp only [Bool.not_true, cond_false] at h ⊢
   cases h3 : Ay (W64 (b.mx + k.1.1)) (W64 (b.my + k.1.2.1)) with
   | false => rw [h3] at h; cases h
   | true => exact ⟨h2, h3⟩
theorem Aqs {l : List (TCT A4)} {re dr : Int} {i k : Nat} {s s' : SS} (h : Ej l re dr i k s = some s') (hs : SM s.1) : SM s'.1 := by
 unfold Ej at h
 cases h1 : (Bw (bAt l s.1 i) (bAt l s.1 k) re dr).2.2.1 == 0 with
 | true =>
  rw [h1] at h
  simp only [cond_true, Option.some.injEq] at h
  subst h
  have b := B79 (a := bAt l s.1 i) (b := bAt l s.1 k) (k := T7 (bAt l s.1 i) (bAt l s.1 k) re dr) (beq_iff_eq.1 h1)
  exact SM.set (SM.set hs b.1) b.2
 | false =>
  rw [h1, cond_false] at h
  cases h2 : (Bw (bAt l s.1 i) (bAt l s.1 k) re dr).2.2.1 == 4 with
  | true => rw [h2] at h; simp at h
  | false => rw [h2] at h; simp only [cond_false, Option.some.injEq] at h; subst h; exact hs
theorem Aqt {l : List (TCT A4)} {re dr : Int} {i : Nat} : ∀ (f k : Nat) (s s' : SS), V.inR l re dr i f k s = some s' → SM s.1 → SM s'.1
 | 0, k, s, s', h, hs => by rw [V.inR, Option.some.injEq] at h; subst h; exact hs
 | f + 1, k, s, s', h, hs => by
  rw [V.inR] at h
  cases h1 : Ej l re dr i k s with
  | none => rw [h1] at h; simp at h
  | some s1 =>
   rw [h1, Option.bind_some] at h
   exact Aqt f (k + 1) s1 s' h (Aqs h1 hs)
theorem Afu {l : List (TCT A4)} {re dr : Int} : ∀ (f i : Nat) (s s' : SS), Fo l re dr f i s = some s' → SM s.1 → SM s'.1
 | 0, i, s, s', h, hs => by rw [Rt, Option.some.injEq] at h; subst h; exact hs
 | f + 1, i, s, s', h, hs => by
  rw [K6] at h
  cases h1 : V.inR l re dr i (l.length - (i + 1)) (i + 1) s with
  | none => rw [h1] at h; simp at h
  | some s1 =>
   rw [h1, Option.bind_some] at h
   exact Afu f (i + 1) s1 s' h (Aqt _ _ _ _ h1 hs)
theorem Aqu : ∀ (l : List (TCT A4)) (s : Af), l.length = s.length → (l.zip s).all Iv = true → SM s
 | [], [], _, _ => fun _ => rfl
 | [], _ :: _, h, _ => by simp at h
 | _ :: _, [], h, _ => by simp at h
 | b :: l, m :: s, h, k => by
  rw [List.zip_cons_cons, List.all_cons, Bool.and_eq_true] at k
  have h' : l.length = s.length := by simpa using h
  have ih := Aqu l s h' k.2
  intro j
  cases j with
  | zero =>
   have := k.1
   unfold Iv Bm.ok Qd at this
   simp only [Bool.and_eq_true] at this
   exact this.2.2.1
  | succ j => exact ih j
theorem A0u {l : List (TCT A4)} {s : Af} {re dr : Int} (h : (C3 l s re dr).2.2.1 = 0) : SM (C3 l s re dr).1 := by
 unfold C3 at h ⊢
 cases h1 : J3 l s != 0 with
 | true => rw [h1, cond_true] at h; exact absurd h (bne_iff_ne.1 h1)
 | false =>
  rw [h1, cond_false] at h
  simp only [cond_false]
  cases h2 : !Hr re dr with
  | true => rw [h2] at h; cases h
  | false =>
   rw [h2, cond_false] at h
   simp only [cond_false]
   cases h3 : Fo l re dr l.length 0 (s, []) with
   | none => rw [h3] at h; cases h
   | some s' =>
    obtain ⟨_, k2, k3⟩ := Ac6 (bne_eq_false_iff_eq.1 h1)
    have hz : SM s := Aqu l s k2 k3
    exact Afu _ _ _ _ h3 hz
theorem B7a {W : List Int} {M ms : Af} (hM : SM M) (hs : SM ms) : SM (scV W M ms) :=
 B8 (n := W.length) (Inv := fun _ (s : Af) => SM s) (fun i s s' _ h h2 => by
  cases h2
  exact SM.set h (hM i)) W.length 0 ms _ (by omega) hs (Rk (Ag (scE W M) 0 W.length ms))
theorem B7b {bl : List (TCT A4)} {c : TCT D5} {t st w fl : Int} {n : Nat} {s : S2} {r : Af × Kns} (h : seF bl c t st w fl n s = .inl r) (hs : SM s.1) : SM r.1 := by
 unfold seF at h
 cases he : (seS bl c w fl n s).2.2.1 != 0 with
 | true => rw [he] at h; cases h
 | false =>
  rw [he] at h
  cases h
  exact B7a (A0u (bne_eq_false_iff_eq.1 he)) hs
theorem Bdy {n d l : Int} (hd : 1 ≤ d) (h1 : -(l * d) ≤ n) (h2 : n ≤ l * d) : -l ≤ DW n d ∧ DW n d ≤ l := by
 unfold DW
 have e1 : (-l) * (2 * d) = -(2 * (l * d)) := by grind
 have e2 : (l + 1) * (2 * d) = 2 * (l * d) + 2 * d := by grind
 refine ⟨Int.le_ediv_of_mul_le (by omega) (by omega), ?_⟩
 have : (2 * n + d) / (2 * d) < l + 1 := Int.ediv_lt_of_lt_mul (by omega) (by omega)
 omega
theorem B33 {x y d : Int} (h : (x * x + y * y) * 4096 < (d + 1) * (d + 1)) (hd : 0 ≤ d) : -d ≤ 64 * x ∧ 64 * x ≤ d := by
 have hy : 0 ≤ y * y := Ja y
 constructor
 ·by_cases k : -d ≤ 64 * x
  ·exact k
  ·have a : d + 1 ≤ -(64 * x) := by omega
   have b := Int.mul_le_mul a a (by omega) (by omega)
   have e : -(64 * x) * -(64 * x) = (x * x) * 4096 := by grind
   rw [e] at b
   omega
 ·by_cases k : 64 * x ≤ d
  ·exact k
  ·have a : d + 1 ≤ 64 * x := by omega
   have b := Int.mul_le_mul a a (by omega) (by omega)
   have e : 64 * x * (64 * x) = (x * x) * 4096 := by grind
   rw [e] at b
   omega
theorem B34 {x d l : Int} (hd : 1 ≤ d) (hl : 0 ≤ l) (h : -d ≤ 64 * x ∧ 64 * x ≤ d) : -l ≤ ToX x 0 d l ∧ ToX x 0 d l ≤ l := by
 unfold ToX
 have e : 64 * l * (x - 0) = l * (64 * x) := by grind
 have a := Int.mul_le_mul_of_nonneg_left h.1 hl
 have b := Int.mul_le_mul_of_nonneg_left h.2 hl
 rw [Int.mul_neg] at a
 rw [e, Int.zero_add]
 exact Bdy hd a b
theorem B35 {x y l : Int} (hf : fpt x y = true) (hne : (x == 0 && (y == 0 && true)) = false) (hl : 1 ≤ l ∧ l ≤ 2097152) : (TwR x y 0 0 l).2 = 0 ∧ (-2097152 ≤ (TwR x y 0 0 l).1.1 ∧ (TwR x y 0 0 l).1.1 ≤ 2097152) ∧ (-2097152 ≤ (TwR x y 0 0 l).1.2 ∧ (TwR x y 0 0 l).1.2 ≤ 2097152) := by
 have h0 : fpt 0 0 = true := by decide
 rw [Bool.and_true] at hne
 have hne2 : ¬ (x = 0 ∧ y = 0) := by
  intro hh; rw [hh.1, hh.2] at hne; cases hne
 have hd := Acc hf h0 hne2
 have hs := Agv hf h0
 obtain ⟨r1, r2, r3⟩ := Gk (sq x y 0 0 * 4096) (by omega)
 have hdd : dTo x y 0 0 = rt (sq x y 0 0 * 4096) := rfl
 rw [← hdd] at r1 r2 r3
 have hsq : sq x y 0 0 = x * x + y * y := by unfold sq; grind
 rw [hsq] at r3
 have a := B33 r3 r1
 have b := B33 (x := y) (y := x) (d := dTo x y 0 0) (by rw [Int.add_comm (y * y)]; exact r3) r1
 have c1 := B34 hd.1 (show 0 ≤ l by omega) a
 have c2 := B34 hd.1 (show 0 ≤ l by omega) b
 have ho : Az l 0 4194304 = false := by
  unfold Az
  rw [decide_eq_false (show ¬ l < 0 by omega), decide_eq_false (show ¬ 4194304 < l by omega)]; rfl
 have hfp : fpt (ToX x 0 (dTo x y 0 0) l) (ToX y 0 (dTo x y 0 0) l) = true := by
  unfold fpt
  exact decide_eq_true (by omega)
 have e : TwR x y 0 0 l = ((ToX x 0 (dTo x y 0 0) l, ToX y 0 (dTo x y 0 0) l), 0) := by
  unfold TwR
  rw [hf, h0, ho, hne, hfp]; rfl
 rw [e]
 exact ⟨rfl, ⟨by show -2097152 ≤ ToX x 0 _ l; omega, by show ToX x 0 _ l ≤ 2097152; omega⟩, ⟨by show -2097152 ≤ ToX y 0 _ l; omega, by show ToX y 0 _ l ≤ 2097152; omega⟩⟩
end St
end V
end Go.Proofs.YtkiaifmbbnnliaaGreat
