import Derived.Test.YtkiaifmbbnnliaaGreatCq
namespace Go.Proofs.YtkiaifmbbnnliaaGreat
open Go.RowKit
namespace V
namespace St
theorem is_bv : FnIs Tryz.prog (55, Tryz.f55) := ⟨Tryz.func55, by kernel_rfl, by kernel_rfl⟩
theorem is_bw : FnIs Tryz.prog (59, Tryz.f59) := ⟨Tryz.func59, by kernel_rfl, by kernel_rfl⟩
theorem is_bx : FnIs Tryz.prog (60, Tryz.f60) := ⟨Tryz.func60, by kernel_rfl, by kernel_rfl⟩
def Rk (k : Int) : Int := bif 1 == k then 150 else bif 2 == k then 500 else bif 3 == k then 900 else 0
abbrev Axa : PureT := B4 [cI] [cI] (fun _ => true) (fun x => (Rk x.1, ()))
def Am1 (k : Int) : Tree (TCTs [cI]) := bif 1 == k then .leaf (150, ()) else bif 2 == k then .leaf (500, ()) else bif 3 == k then .leaf (900, ()) else .leaf (0, ())
theorem Am2 (k : Int) : (Am1 k).sat (fun y => y = (Rk k, ())) := by
 unfold Am1 Rk
 cases (1 : Int) == k <;> cases (2 : Int) == k <;> cases (3 : Int) == k <;> exact rfl
theorem B5u : A7 Tryz.prog 59 Axa := B2 (R7 (u := 4) Ab A9 (fns_cons is_bw A2)) 6 (fun x => Am1 x.1) (fun x => by kernel_rfl) fun x _ _ => Am2 x.1
def Yd (k : Int) : Bool := decide (max k (W64 (0 - k)) > 16777216)
abbrev Axb : PureT := B4 [cI] [.b] (fun _ => true) (fun x => (Yd x.1, ()))
theorem B5v : A7 Tryz.prog 60 Axb := B2 (Ad Ab A9 (fns_cons is_bx A2)) 6 (fun x => .leaf (Yd x.1, ())) (fun x => by kernel_rfl) fun _ _ _ => rfl
abbrev cBw : TC := .st [cI, cPt, cI, cI]
abbrev B5w : List (Nat × PureT) := (59, Axa) :: (60, Axb) :: (56, Ra) :: (50, Q2) :: (105, Pp) :: Tf
theorem B9j : Bu Tryz.prog B5w := A0 is_bw.plain B5u (A0 is_bx.plain B5v (A0 is_bL.plain Yu (A0 is_al.plain Tu (A0 is_aN.plain Abx Uy))))
noncomputable def B9k : List (Nat × Func) := [(16, Tryz.f16), (55, Tryz.f55), (52, Tryz.f52), (54, Tryz.f54), (108, Tryz.f108), (57, Tryz.f57), (106, Tryz.f106), (107, Tryz.f107)]
noncomputable def B5x (Y : YK) : Ctx := S7 Tryz.prog B5w B9k [] [(58, Afd 53 Y)]
theorem Ou {α : Type} {d : α} (l : List α) (i j : Nat) (x : α) : Aq (B1 l i x) j d = x ∨ Aq (B1 l i x) j d = Aq l j d := by
 rw [Bc, I6, I6, List.getD_eq_getElem?_getD, List.getD_eq_getElem?_getD, List.getElem?_set]
 by_cases h : i = j
 ·subst h
  rw [if_pos rfl]
  by_cases h2 : i < l.length
  ·rw [if_pos h2]; exact .inl rfl
  ·rw [if_neg h2, List.getElem?_eq_none (Nat.le_of_not_lt h2)]; exact .inr rfl
 ·rw [if_neg h]; exact .inr rfl
def smB (m : TCT Ai) : Bool := Au m.2.1.1 m.2.1.2.1
def SM (l : Ae) : Prop := ∀ j : Nat, smB (Ag l j) = true
theorem SM.set {l : Ae} {i : Nat} {x : TCT Ai} (h : SM l) (hx : smB x = true) : SM (B1 l i x) := fun j => by
 unfold Ag
 rcases Ou (d := Ao Ai) l i j x with e | e
 ·rw [e]; exact hx
 ·rw [e]; exact h j
theorem B0h {a b : Bm} {k : O8} (h : (Gb a b k).2.2.1 = 0) : smB (Gb a b k).1 = true ∧ smB (Gb a b k).2.1 = true := by
 unfold Gb at h ⊢
 cases h1 : k.2.1 != 0 with
 | true => rw [h1] at h; exact absurd h (bne_iff_ne.1 h1)
 | false =>
  rw [h1] at h
  simp only [cond_false] at h ⊢
  cases h2 : Au (W64 (a.mx - k.1.1)) (W64 (a.my - k.1.2.1)) with
  | false => rw [h2] at h; cases h
  | true =>
   rw [h2] at h
   simp only [Bool.not_true, cond_false] at h ⊢
   cases h3 : Au (W64 (b.mx + k.1.1)) (W64 (b.my + k.1.2.1)) with
   | false => rw [h3] at h; cases h
   | true => exact ⟨h2, h3⟩
theorem A5d {l : List (TCT A3)} {re dr : Int} {i k : Nat} {s s' : SS} (h : Dh l re dr i k s = some s') (hs : SM s.1) : SM s'.1 := by
 unfold Dh at h
 cases h1 : (B7 (bAt l s.1 i) (bAt l s.1 k) re dr).2.2.1 == 0 with
 | true =>
  rw [h1] at h
  simp only [cond_true, Option.some.injEq] at h
  subst h
  have b := B0h (a := bAt l s.1 i) (b := bAt l s.1 k) (k := Qb (bAt l s.1 i) (bAt l s.1 k) re dr) (beq_iff_eq.1 h1)
  exact SM.set (SM.set hs b.1) b.2
 | false =>
  rw [h1, cond_false] at h
  cases h2 : (B7 (bAt l s.1 i) (bAt l s.1 k) re dr).2.2.1 == 4 with
  | true => rw [h2] at h; simp at h
  | false => rw [h2] at h; simp only [cond_false, Option.some.injEq] at h; subst h; exact hs
theorem A9l {l : List (TCT A3)} {re dr : Int} {i : Nat} : ∀ (f k : Nat) (s s' : SS), V.inR l re dr i f k s = some s' → SM s.1 → SM s'.1
 | 0, k, s, s', h, hs => by rw [V.inR, Option.some.injEq] at h; subst h; exact hs
 | f + 1, k, s, s', h, hs => by
  rw [V.inR] at h
  cases h1 : Dh l re dr i k s with
  | none => rw [h1] at h; simp at h
  | some s1 =>
   rw [h1, Option.bind_some] at h
   exact A9l f (k + 1) s1 s' h (A5d h1 hs)
theorem Acu {l : List (TCT A3)} {re dr : Int} : ∀ (f i : Nat) (s s' : SS), Em l re dr f i s = some s' → SM s.1 → SM s'.1
 | 0, i, s, s', h, hs => by rw [Ib, Option.some.injEq] at h; subst h; exact hs
 | f + 1, i, s, s', h, hs => by
  rw [Gp] at h
  cases h1 : V.inR l re dr i (l.length - (i + 1)) (i + 1) s with
  | none => rw [h1] at h; simp at h
  | some s1 =>
   rw [h1, Option.bind_some] at h
   exact Acu f (i + 1) s1 s' h (A9l _ _ _ _ h1 hs)
theorem A9m : ∀ (l : List (TCT A3)) (s : Ae), l.length = s.length → (l.zip s).all Iu = true → SM s
 | [], [], _, _ => fun _ => rfl
 | [], _ :: _, h, _ => by simp at h
 | _ :: _, [], h, _ => by simp at h
 | b :: l, m :: s, h, k => by
  rw [List.zip_cons_cons, List.all_cons, Bool.and_eq_true] at k
  have h' : l.length = s.length := by simpa using h
  have ih := A9m l s h' k.2
  intro j
  cases j with
  | zero =>
   have := k.1
   unfold Iu Bm.ok Q9 at this
   simp only [Bool.and_eq_true] at this
   exact this.2.2.1
  | succ j => exact ih j
theorem Zp {l : List (TCT A3)} {s : Ae} {re dr : Int} (h : (Bi l s re dr).2.2.1 = 0) : SM (Bi l s re dr).1 := by
 unfold Bi at h ⊢
 cases h1 : I4 l s != 0 with
 | true => rw [h1, cond_true] at h; exact absurd h (bne_iff_ne.1 h1)
 | false =>
  rw [h1, cond_false] at h
  simp only [cond_false]
  cases h2 : !Gh re dr with
  | true => rw [h2] at h; cases h
  | false =>
   rw [h2, cond_false] at h
   simp only [cond_false]
   cases h3 : Em l re dr l.length 0 (s, []) with
   | none => rw [h3] at h; cases h
   | some s' =>
    obtain ⟨_, k2, k3⟩ := A1z (bne_eq_false_iff_eq.1 h1)
    have hz : SM s := A9m l s k2 k3
    exact Acu _ _ _ _ h3 hz
theorem B0i {W : List Int} {M ms : Ae} (hM : SM M) (hs : SM ms) : SM (scV W M ms) :=
 Ax (n := W.length) (Inv := fun _ (s : Ae) => SM s) (fun i s s' _ h h2 => by
  cases h2
  exact SM.set h (hM i)) W.length 0 ms _ (by omega) hs (In (Ar (scE W M) 0 W.length ms))
theorem B0j {bl : List (TCT A3)} {c : TCT Dz} {t st w fl : Int} {n : Nat} {s : S2} {r : Ae × Kns} (h : seF bl c t st w fl n s = .inl r) (hs : SM s.1) : SM r.1 := by
 unfold seF at h
 cases he : (seS bl c w fl n s).2.2.1 != 0 with
 | true => rw [he] at h; cases h
 | false =>
  rw [he] at h
  cases h
  exact B0i (Zp (bne_eq_false_iff_eq.1 he)) hs
theorem B5y {n d l : Int} (hd : 1 ≤ d) (h1 : -(l * d) ≤ n) (h2 : n ≤ l * d) : -l ≤ DW n d ∧ DW n d ≤ l := by
 unfold DW
 have e1 : (-l) * (2 * d) = -(2 * (l * d)) := by grind
 have e2 : (l + 1) * (2 * d) = 2 * (l * d) + 2 * d := by grind
 refine ⟨Int.le_ediv_of_mul_le (by omega) (by omega), ?_⟩
 have : (2 * n + d) / (2 * d) < l + 1 := Int.ediv_lt_of_lt_mul (by omega) (by omega)
 omega
theorem Axc {x y d : Int} (h : (x * x + y * y) * 4096 < (d + 1) * (d + 1)) (hd : 0 ≤ d) : -d ≤ 64 * x ∧ 64 * x ≤ d := by
 have hy : 0 ≤ y * y := Ja y
 constructor
 ·by_cases k : -d ≤ 64 * x
  ·exact k
  ·have a : d + 1 ≤ -(64 * x) := by omega
   have b := Int.mul_le_mul a a (by omega) (by omega)
   have e : -(64 * x) * -(64 * x) = (x * x) * 4096 := by grind
   rw [e] at b
   omega
 ·by_cases k : 64 * x ≤ d
  ·exact k
  ·have a : d + 1 ≤ 64 * x := by omega
   have b := Int.mul_le_mul a a (by omega) (by omega)
   have e : 64 * x * (64 * x) = (x * x) * 4096 := by grind
   rw [e] at b
   omega
theorem Axd {x d l : Int} (hd : 1 ≤ d) (hl : 0 ≤ l) (h : -d ≤ 64 * x ∧ 64 * x ≤ d) : -l ≤ ToX x 0 d l ∧ ToX x 0 d l ≤ l := by
 unfold ToX
 have e : 64 * l * (x - 0) = l * (64 * x) := by grind
 have a := Int.mul_le_mul_of_nonneg_left h.1 hl
 have b := Int.mul_le_mul_of_nonneg_left h.2 hl
 rw [Int.mul_neg] at a
 rw [e, Int.zero_add]
 exact B5y hd a b
theorem Am3 {x y l : Int} (hf : fpt x y = true) (hne : (x == 0 && (y == 0 && true)) = false) (hl : 1 ≤ l ∧ l ≤ 2097152) : (TwR x y 0 0 l).2 = 0 ∧ (-2097152 ≤ (TwR x y 0 0 l).1.1 ∧ (TwR x y 0 0 l).1.1 ≤ 2097152) ∧ (-2097152 ≤ (TwR x y 0 0 l).1.2 ∧ (TwR x y 0 0 l).1.2 ≤ 2097152) := by
 have h0 : fpt 0 0 = true := by decide
 rw [Bool.and_true] at hne
 have hne2 : ¬ (x = 0 ∧ y = 0) := by
  intro hh; rw [hh.1, hh.2] at hne; cases hne
 have hd := Ao5 hf h0 hne2
 have hs := Ao4 hf h0
 obtain ⟨r1, r2, r3⟩ := Ga (sq x y 0 0 * 4096) (by omega)
 have hdd : dTo x y 0 0 = rt (sq x y 0 0 * 4096) := rfl
 rw [← hdd] at r1 r2 r3
 have hsq : sq x y 0 0 = x * x + y * y := by unfold sq; grind
 rw [hsq] at r3
 have a := Axc r3 r1
 have b := Axc (x := y) (y := x) (d := dTo x y 0 0) (by rw [Int.add_comm (y * y)]; exact r3) r1
 have c1 := Axd hd.1 (show 0 ≤ l by omega) a
 have c2 := Axd hd.1 (show 0 ≤ l by omega) b
 have ho : Aw l 0 4194304 = false := by
  unfold Aw
  rw [decide_eq_false (show ¬ l < 0 by omega), decide_eq_false (show ¬ 4194304 < l by omega)]; rfl
 have hfp : fpt (ToX x 0 (dTo x y 0 0) l) (ToX y 0 (dTo x y 0 0) l) = true := by
  unfold fpt
  exact decide_eq_true (by omega)
 have e : TwR x y 0 0 l = ((ToX x 0 (dTo x y 0 0) l, ToX y 0 (dTo x y 0 0) l), 0) := by
  unfold TwR
  rw [hf, h0, ho, hne, hfp]; rfl
 rw [e]
 exact ⟨rfl, ⟨by show -2097152 ≤ ToX x 0 _ l; omega, by show ToX x 0 _ l ≤ 2097152; omega⟩, ⟨by show -2097152 ≤ ToX y 0 _ l; omega, by show ToX y 0 _ l ≤ 2097152; omega⟩⟩
end St
end V
end Go.Proofs.YtkiaifmbbnnliaaGreat
