import Derived.Test.YtkiaifmbbnnliaaGreatCq
namespace Go.Proofs.YtkiaifmbbnnliaaGreat
open Go.RowKit
namespace V
namespace St
theorem is_sStrike2 : FnIs Tryz.prog (55, Tryz.f55) := ⟨Tryz.func55, by kernel_rfl, by kernel_rfl⟩
theorem is_sFollow : FnIs Tryz.prog (59, Tryz.f59) := ⟨Tryz.func59, by kernel_rfl, by kernel_rfl⟩
theorem is_sStrong : FnIs Tryz.prog (60, Tryz.f60) := ⟨Tryz.func60, by kernel_rfl, by kernel_rfl⟩
def folV (k : Int) : Int := bif 1 == k then 150 else bif 2 == k then 500 else bif 3 == k then 900 else 0
abbrev s_fol : PureT := spec [cI] [cI] (fun _ => true) (fun x => (folV x.1, ()))
def T_fol (k : Int) : Tree (TCTs [cI]) := bif 1 == k then .leaf (150, ()) else bif 2 == k then .leaf (500, ()) else bif 3 == k then .leaf (900, ()) else .leaf (0, ())
theorem T_fol_ok (k : Int) : (T_fol k).sat (fun y => y = (folV k, ())) := by
  unfold T_fol folV
  cases (1 : Int) == k <;> cases (2 : Int) == k <;> cases (3 : Int) == k <;> exact rfl
theorem q_fol : PureOk Tryz.prog 59 s_fol := q_by (ctxU_ok (u := 4) mixed puOk_nil (fns_cons is_sFollow fns_nil)) 6 (fun x => T_fol x.1) (fun x => by kernel_rfl) fun x _ _ => T_fol_ok x.1
def bigB (k : Int) : Bool := decide (max k (W64 (0 - k)) > 16777216)
abbrev s_big : PureT := spec [cI] [.b] (fun _ => true) (fun x => (bigB x.1, ()))
theorem q_big : PureOk Tryz.prog 60 s_big := q_by (ctx_ok mixed puOk_nil (fns_cons is_sStrong fns_nil)) 6 (fun x => .leaf (bigB x.1, ())) (fun x => by kernel_rfl) fun _ _ _ => rfl
abbrev cBw : TC := .st [cI, cPt, cI, cI]
abbrev plSk : List (Nat × PureT) := (59, s_fol) :: (60, s_big) :: (56, s_Towards) :: (50, s_Check) :: (105, s_Posts) :: plGm
theorem puSk : PuOk Tryz.prog plSk := puOk_cons is_sFollow.plain q_fol (puOk_cons is_sStrong.plain q_big (puOk_cons is_Towards.plain q_Towards (puOk_cons is_tChk.plain q_Check (puOk_cons is_Posts.plain q_Posts puGm))))
noncomputable def fnSk : List (Nat × Func) := [(16, Tryz.f16), (55, Tryz.f55), (52, Tryz.f52), (54, Tryz.f54), (108, Tryz.f108), (57, Tryz.f57), (106, Tryz.f106), (107, Tryz.f107)]
noncomputable def X_sk (Y : YK) : Ctx := ctxS Tryz.prog plSk fnSk [] [(58, spYK 53 Y)]
theorem getA_setA2 {α : Type} {d : α} (l : List α) (i j : Nat) (x : α) : getA (setA l i x) j d = x ∨ getA (setA l i x) j d = getA l j d := by
  rw [setA_eq, getA_eq, getA_eq, List.getD_eq_getElem?_getD, List.getD_eq_getElem?_getD, List.getElem?_set]
  by_cases h : i = j
  · subst h
    rw [if_pos rfl]
    by_cases h2 : i < l.length
    · rw [if_pos h2]; exact .inl rfl
    · rw [if_neg h2, List.getElem?_eq_none (Nat.le_of_not_lt h2)]; exact .inr rfl
  · rw [if_neg h]; exact .inr rfl
def smB (m : TCT cMot) : Bool := strongB m.2.1.1 m.2.1.2.1
def SM (l : Mots) : Prop := ∀ j : Nat, smB (getM l j) = true
theorem SM.set {l : Mots} {i : Nat} {x : TCT cMot} (h : SM l) (hx : smB x = true) : SM (setA l i x) := fun j => by
  unfold getM
  rcases getA_setA2 (d := dflt cMot) l i j x with e | e
  · rw [e]; exact hx
  · rw [e]; exact h j
theorem bnc_sm {a b : Bm} {k : RKick} (h : (BncOf a b k).2.2.1 = 0) : smB (BncOf a b k).1 = true ∧ smB (BncOf a b k).2.1 = true := by
  unfold BncOf at h ⊢
  cases h1 : k.2.1 != 0 with
  | true => rw [h1] at h; exact absurd h (bne_iff_ne.1 h1)
  | false =>
    rw [h1] at h
    simp only [cond_false] at h ⊢
    cases h2 : strongB (W64 (a.mx - k.1.1)) (W64 (a.my - k.1.2.1)) with
    | false => rw [h2] at h; cases h
    | true =>
      rw [h2] at h
      simp only [Bool.not_true, cond_false] at h ⊢
      cases h3 : strongB (W64 (b.mx + k.1.1)) (W64 (b.my + k.1.2.1)) with
      | false => rw [h3] at h; cases h
      | true => exact ⟨h2, h3⟩
theorem sStep_sm {l : List (TCT cBall)} {re dr : Int} {i k : Nat} {s s' : SS} (h : sStep l re dr i k s = some s') (hs : SM s.1) : SM s'.1 := by
  unfold sStep at h
  cases h1 : (BounceR (bAt l s.1 i) (bAt l s.1 k) re dr).2.2.1 == 0 with
  | true =>
    rw [h1] at h
    simp only [cond_true, Option.some.injEq] at h
    subst h
    have b := bnc_sm (a := bAt l s.1 i) (b := bAt l s.1 k) (k := KickR (bAt l s.1 i) (bAt l s.1 k) re dr) (beq_iff_eq.1 h1)
    exact SM.set (SM.set hs b.1) b.2
  | false =>
    rw [h1, cond_false] at h
    cases h2 : (BounceR (bAt l s.1 i) (bAt l s.1 k) re dr).2.2.1 == 4 with
    | true => rw [h2] at h; simp at h
    | false => rw [h2] at h; simp only [cond_false, Option.some.injEq] at h; subst h; exact hs
theorem inR_sm {l : List (TCT cBall)} {re dr : Int} {i : Nat} : ∀ (f k : Nat) (s s' : SS), V.inR l re dr i f k s = some s' → SM s.1 → SM s'.1
  | 0, k, s, s', h, hs => by rw [V.inR, Option.some.injEq] at h; subst h; exact hs
  | f + 1, k, s, s', h, hs => by
    rw [V.inR] at h
    cases h1 : sStep l re dr i k s with
    | none => rw [h1] at h; simp at h
    | some s1 =>
      rw [h1, Option.bind_some] at h
      exact inR_sm f (k + 1) s1 s' h (sStep_sm h1 hs)
theorem outR_sm {l : List (TCT cBall)} {re dr : Int} : ∀ (f i : Nat) (s s' : SS), outR l re dr f i s = some s' → SM s.1 → SM s'.1
  | 0, i, s, s', h, hs => by rw [outR_zero, Option.some.injEq] at h; subst h; exact hs
  | f + 1, i, s, s', h, hs => by
    rw [outR_succ] at h
    cases h1 : V.inR l re dr i (l.length - (i + 1)) (i + 1) s with
    | none => rw [h1] at h; simp at h
    | some s1 =>
      rw [h1, Option.bind_some] at h
      exact outR_sm f (i + 1) s1 s' h (inR_sm _ _ _ _ h1 hs)
theorem zip_sm : ∀ (l : List (TCT cBall)) (s : Mots), l.length = s.length → (l.zip s).all okBM = true → SM s
  | [], [], _, _ => fun _ => rfl
  | [], _ :: _, h, _ => by simp at h
  | _ :: _, [], h, _ => by simp at h
  | b :: l, m :: s, h, k => by
    rw [List.zip_cons_cons, List.all_cons, Bool.and_eq_true] at k
    have h' : l.length = s.length := by simpa using h
    have ih := zip_sm l s h' k.2
    intro j
    cases j with
    | zero =>
      have := k.1
      unfold okBM Bm.ok motB at this
      simp only [Bool.and_eq_true] at this
      exact this.2.2.1
    | succ j => exact ih j
theorem settle_sm {l : List (TCT cBall)} {s : Mots} {re dr : Int} (h : (SettleR l s re dr).2.2.1 = 0) : SM (SettleR l s re dr).1 := by
  unfold SettleR at h ⊢
  cases h1 : chkR l s != 0 with
  | true => rw [h1, cond_true] at h; exact absurd h (bne_iff_ne.1 h1)
  | false =>
    rw [h1, cond_false] at h
    simp only [cond_false]
    cases h2 : !bncB re dr with
    | true => rw [h2] at h; cases h
    | false =>
      rw [h2, cond_false] at h
      simp only [cond_false]
      cases h3 : outR l re dr l.length 0 (s, []) with
      | none => rw [h3] at h; cases h
      | some s' =>
        obtain ⟨_, k2, k3⟩ := chk_ok (bne_eq_false_iff_eq.1 h1)
        have hz : SM s := zip_sm l s k2 k3
        exact outR_sm _ _ _ _ h3 hz
theorem dw_le {n d l : Int} (hd : 1 ≤ d) (h1 : -(l * d) ≤ n) (h2 : n ≤ l * d) : -l ≤ DW n d ∧ DW n d ≤ l := by
  unfold DW
  have e1 : (-l) * (2 * d) = -(2 * (l * d)) := by grind
  have e2 : (l + 1) * (2 * d) = 2 * (l * d) + 2 * d := by grind
  refine ⟨Int.le_ediv_of_mul_le (by omega) (by omega), ?_⟩
  have : (2 * n + d) / (2 * d) < l + 1 := Int.ediv_lt_of_lt_mul (by omega) (by omega)
  omega
theorem rt_ge {x y d : Int} (h : (x * x + y * y) * 4096 < (d + 1) * (d + 1)) (hd : 0 ≤ d) : -d ≤ 64 * x ∧ 64 * x ≤ d := by
  have hy : 0 ≤ y * y := self_nn y
  constructor
  · by_cases k : -d ≤ 64 * x
    · exact k
    · have a : d + 1 ≤ -(64 * x) := by omega
      have b := Int.mul_le_mul a a (by omega) (by omega)
      have e : -(64 * x) * -(64 * x) = (x * x) * 4096 := by grind
      rw [e] at b
      omega
  · by_cases k : 64 * x ≤ d
    · exact k
    · have a : d + 1 ≤ 64 * x := by omega
      have b := Int.mul_le_mul a a (by omega) (by omega)
      have e : 64 * x * (64 * x) = (x * x) * 4096 := by grind
      rw [e] at b
      omega
theorem to_le {x d l : Int} (hd : 1 ≤ d) (hl : 0 ≤ l) (h : -d ≤ 64 * x ∧ 64 * x ≤ d) : -l ≤ ToX x 0 d l ∧ ToX x 0 d l ≤ l := by
  unfold ToX
  have e : 64 * l * (x - 0) = l * (64 * x) := by grind
  have a := Int.mul_le_mul_of_nonneg_left h.1 hl
  have b := Int.mul_le_mul_of_nonneg_left h.2 hl
  rw [Int.mul_neg] at a
  rw [e, Int.zero_add]
  exact dw_le hd a b
theorem tw_ok {x y l : Int} (hf : fpt x y = true) (hne : (x == 0 && (y == 0 && true)) = false) (hl : 1 ≤ l ∧ l ≤ 2097152) : (TwR x y 0 0 l).2 = 0 ∧ (-2097152 ≤ (TwR x y 0 0 l).1.1 ∧ (TwR x y 0 0 l).1.1 ≤ 2097152) ∧ (-2097152 ≤ (TwR x y 0 0 l).1.2 ∧ (TwR x y 0 0 l).1.2 ≤ 2097152) := by
  have h0 : fpt 0 0 = true := by decide
  rw [Bool.and_true] at hne
  have hne2 : ¬ (x = 0 ∧ y = 0) := by
    intro hh; rw [hh.1, hh.2] at hne; cases hne
  have hd := dTo_bd hf h0 hne2
  have hs := sq_bd hf h0
  obtain ⟨r1, r2, r3⟩ := rt_spec (sq x y 0 0 * 4096) (by omega)
  have hdd : dTo x y 0 0 = rt (sq x y 0 0 * 4096) := rfl
  rw [← hdd] at r1 r2 r3
  have hsq : sq x y 0 0 = x * x + y * y := by unfold sq; grind
  rw [hsq] at r3
  have a := rt_ge r3 r1
  have b := rt_ge (x := y) (y := x) (d := dTo x y 0 0) (by rw [Int.add_comm (y * y)]; exact r3) r1
  have c1 := to_le hd.1 (show 0 ≤ l by omega) a
  have c2 := to_le hd.1 (show 0 ≤ l by omega) b
  have ho : outB l 0 4194304 = false := by
    unfold outB
    rw [decide_eq_false (show ¬ l < 0 by omega), decide_eq_false (show ¬ 4194304 < l by omega)]; rfl
  have hfp : fpt (ToX x 0 (dTo x y 0 0) l) (ToX y 0 (dTo x y 0 0) l) = true := by
    unfold fpt
    exact decide_eq_true (by omega)
  have e : TwR x y 0 0 l = ((ToX x 0 (dTo x y 0 0) l, ToX y 0 (dTo x y 0 0) l), 0) := by
    unfold TwR
    rw [hf, h0, ho, hne, hfp]; rfl
  rw [e]
  exact ⟨rfl, ⟨by show -2097152 ≤ ToX x 0 _ l; omega, by show ToX x 0 _ l ≤ 2097152; omega⟩, ⟨by show -2097152 ≤ ToX y 0 _ l; omega, by show ToX y 0 _ l ≤ 2097152; omega⟩⟩
end St
end V
end Go.Proofs.YtkiaifmbbnnliaaGreat
