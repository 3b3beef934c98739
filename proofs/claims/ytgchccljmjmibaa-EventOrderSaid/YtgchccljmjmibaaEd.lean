/- Chapter 11: draws that are valid: both checks say the same. -/
import Derived.Test.YtgchccljmjmibaaEc
namespace Go.Proofs.Ytgchccljmjmibaa
open Go.RowKit
namespace V
namespace Ev
theorem allI_iff {α : Type} (ok : Nat → α → Bool) : ∀ (l : List α) (k : Nat), allI ok k l = true ↔ ∀ (i : Nat) (h : i < l.length), ok (k + i) l[i] = true
  | [], k => by simp [allI]
  | x :: l, k => by
    rw [allI, Bool.and_eq_true, allI_iff ok l (k + 1)]
    constructor
    · rintro ⟨h0, h1⟩ i hi
      cases i with
      | zero => exact h0
      | succ i => have := h1 i (by simpa using hi); rw [show k + 1 + i = k + (i + 1) by omega] at this; exact this
    · intro h
      refine ⟨h 0 (by simp), fun i hi => ?_⟩
      have := h (i + 1) (by simpa using hi)
      rw [show k + 1 + i = k + (i + 1) by omega]
      exact this
/-- the slot beside a slot -/
def par (i : Nat) : Nat := bif i % 2 == 0 then i + 1 else i - 1
theorem xor1_par : ∀ i : Nat, i < 64 → xor1 (i : Int) = (par i : Int) := by decide +kernel
theorem par_lt {n i : Nat} (h : n % 2 = 0) (hi : i < n) : par i < n := by
  unfold par
  cases hb : (i % 2 == 0) with
  | true => rw [beq_iff_eq] at hb; simp only [cond_true]; omega
  | false => simp only [cond_false]; omega
def okD (l : List Int) (i : Nat) (p : Int) : Bool := decide (-1 ≤ p ∧ p ≤ 1000) && ((p == -1 || !(l.take i).contains p) && (p != -1 || getA l (par i) (dflt cI) != -1))
def okR (l : List Int) (i : Nat) (p : Int) : Bool := decide (-1 ≤ p ∧ p ≤ 1000) && ((p == -1 || !(l.take i).contains p) && (i % 2 == 0 || (p != -1 || getA l (i - 1) (dflt cI) != -1)))
/-- the error of a draw -/
def drV (l : List Int) : Int := bif decide ((l.length : Int) > 64) then 6 else bif !powB (l.length : Int) then 2 else bif decide ((l.length : Int) < 2) then 2 else bif allI (okD l) 0 l then 0 else 2
theorem okD_okR (l : List Int) (h2 : l.length % 2 = 0) : allI (okD l) 0 l = allI (okR l) 0 l := by
  rw [Bool.eq_iff_iff, allI_iff, allI_iff]
  constructor
  · intro h i hi
    have := h i hi
    unfold okD at this
    unfold okR
    simp only [Bool.and_eq_true, Nat.zero_add] at this ⊢
    refine ⟨this.1, this.2.1, ?_⟩
    cases hb : (i % 2 == 0) with
    | true => rfl
    | false =>
      have e : par i = i - 1 := by unfold par; rw [hb]; rfl
      rw [e] at this
      exact this.2.2
  · intro h i hi
    have := h i hi
    unfold okR at this
    unfold okD
    simp only [Bool.and_eq_true, Nat.zero_add] at this ⊢
    refine ⟨this.1, this.2.1, ?_⟩
    cases hb : (i % 2 == 0) with
    | false =>
      have e : par i = i - 1 := by unfold par; rw [hb]; rfl
      rw [e]
      rw [hb] at this
      exact this.2.2
    | true =>
      have e : par i = i + 1 := by unfold par; rw [hb]; rfl
      rw [e]
      have hm : i % 2 = 0 := by simpa using hb
      have hi1 : i + 1 < l.length := by omega
      have h3 := h (i + 1) hi1
      unfold okR at h3
      simp only [Bool.and_eq_true, Nat.zero_add] at h3
      have h4 := h3.2.2
      rw [show ((i + 1) % 2 == 0) = false by simp; omega] at h4
      rw [show i + 1 - 1 = i by omega, getA_lt hi] at h4
      rw [getA_lt hi1]
      revert h4
      cases h5 : (l[i] != -1) with
      | true => simp
      | false =>
        cases h6 : (l[i + 1] != -1) with
        | true => simp
        | false => intro h; simp at h
theorem pow_even {n : Nat} (h : n ≤ 64) (hp : powB (n : Int) = true) (h2 : 2 ≤ n) : n % 2 = 0 := by
  revert hp h2
  have : ∀ n : Nat, n ≤ 64 → powB (n : Int) = true → 2 ≤ n → n % 2 = 0 := by decide +kernel
  exact this n h
theorem pc_pow : ∀ n : Nat, n ≤ 64 → (pcF n != 1) = !powB (n : Int) ∨ n < 2 := by decide +kernel
/-! the program's loop -/
def InvC (l : List Int) (i : Nat) (m : Int → Option Int) : Prop := ∀ p : Int, (m p).getD 0 = ((l.take i).count p : Nat)
theorem upd_same {β : Type} (m : Int → Option β) (k : Int) (v : β) : upd m k v k = some v := by
  unfold upd
  rw [show beqD cI k k = (k == k) from rfl]
  simp
theorem upd_other {β : Type} (m : Int → Option β) {k j : Int} (v : β) (h : j ≠ k) : upd m k v j = m j := by
  unfold upd
  rw [show beqD cI j k = (j == k) from rfl, show (j == k) = false by simpa using h]
  rfl
theorem count_le' (l : List Int) (i : Nat) (p : Int) : (l.take i).count p ≤ l.length := Nat.le_trans List.count_le_length (by simp; omega)
theorem cd_run (l : List Int) (h64 : l.length ≤ 64) (h2 : l.length % 2 = 0) : iter st_cd (l.length + 1) (hd_cd l l.length 0 (fun _ => none)) = some (bif allI (okD l) 0 l then ex_cd else rt_cd) := by
  refine iter_allS (st := st_cd) l (fun i m => hd_cd l l.length i m) (okD l) (fun p m => nx_cd m p) rt_cd ex_cd (InvC l) (fun i m hi hv => ?_) (fun m _ => ?_) _ (fun p => by simp)
  · have hc := count_le' l i l[i]
    have hn : (nx_cd m l[i] l[i]).getD 0 = ((l.take i).count l[i] : Nat) + 1 := by
      unfold nx_cd
      rw [upd_same, hv l[i]]
      exact W64_id (by omega) (by omega)
    refine ⟨?_, fun p => ?_⟩
    · show (sm_cd l l l.length i m).run = _
      unfold sm_cd inN
      rw [decide_eq_true (show (i : Int) < (l.length : Int) by omega), decide_eq_true (show 0 ≤ (i : Int) ∧ (i : Int) < (l.length : Int) by omega), show Int.toNat (i : Int) = i by omega, getA_lt hi]
      simp only [cond_true]
      have hpa : par i < l.length := par_lt h2 hi
      have epa : (pa_cd l l l.length i l[i] m).run = some (bif (l[i] != -1 || getA l (par i) (dflt cI) != -1) then .inl (hd_cd l l.length ((i + 1 : Nat) : Int) (nx_cd m l[i])) else .inr rt_cd) := by
        unfold pa_cd inN
        rw [xor1_par i (by omega), decide_eq_true (show 0 ≤ (par i : Int) ∧ (par i : Int) < (l.length : Int) by omega), show Int.toNat (par i : Int) = par i by omega, W64_id (n := (i : Int) + 1) (by omega) (by omega)]
        unfold bne
        cases l[i] == -1 <;> cases getA l (par i) (dflt cI) == -1 <;> rfl
      unfold bd_cd okD
      rw [hn]
      cases h1 : decide (l[i] < -1) with
      | true =>
        rw [decide_eq_false (show ¬ (-1 ≤ l[i] ∧ l[i] ≤ 1000) by have := of_decide_eq_true h1; omega)]
        rfl
      | false =>
        have h1 := of_decide_eq_false h1
        cases h3 : decide (l[i] > 1000) with
        | true =>
          rw [decide_eq_false (show ¬ (-1 ≤ l[i] ∧ l[i] ≤ 1000) by have := of_decide_eq_true h3; omega)]
          rfl
        | false =>
          have h3 := of_decide_eq_false h3
          rw [decide_eq_true (show -1 ≤ l[i] ∧ l[i] ≤ 1000 by omega)]
          simp only [cond_false, Bool.true_and]
          cases h4 : (l[i] != -1) with
          | false =>
            have h5 : (l[i] == -1) = true := by simpa [bne] using h4
            simp only [cond_false]
            rw [epa, h5, h4]
            rfl
          | true =>
            have h5 : (l[i] == -1) = false := by simpa [bne] using h4
            simp only [cond_true]
            rw [h5]
            by_cases hm : l[i] ∈ l.take i
            · have : 0 < (l.take i).count l[i] := List.count_pos_iff.2 hm
              rw [decide_eq_true (show (((l.take i).count l[i] : Nat) : Int) + 1 > 1 by omega), List.contains_iff_mem.2 hm]
              rfl
            · have : (l.take i).count l[i] = 0 := List.count_eq_zero.2 hm
              rw [decide_eq_false (show ¬ ((((l.take i).count l[i] : Nat) : Int) + 1 > 1) by omega)]; simp only [cond_false]; rw [epa, h4]
              have hcn : (l.take i).contains l[i] = false := by
                rw [Bool.eq_false_iff]
                intro h
                exact hm (List.contains_iff_mem.1 h)
              rw [hcn]
              rfl
    · show (upd m l[i] (W64 ((m l[i]).getD 0 + 1)) p).getD 0 = _
      rw [List.take_succ_eq_append_getElem hi, List.count_append]
      by_cases hp : p = l[i]
      · subst hp
        have := hn
        unfold nx_cd at this
        rw [this]
        simp
      · rw [upd_other _ _ hp, hv p]
        have : List.count p [l[i]] = 0 := by simp [List.count_cons]; exact fun h => hp h.symm
        omega
  · show (sm_cd l l l.length l.length m).run = _
    unfold sm_cd
    rw [decide_eq_false (show ¬ (l.length : Int) < (l.length : Int) by omega)]
    rfl
abbrev s_draw : PureT := spec [.sl cI] [cI] (fun _ => true) (fun x => (drV x.1, ()))
noncomputable def X_cd : Ctx := ctxL Try.prog plDr [(21, Try.f21)] [((21, 8), loopSum L_cd E_cd (finX [.ret, .exit 0] st_cd fu_cd))]
theorem X_cd_ok : CtxOk X_cd := ctxL_ok mixed puDr (fns_cons is_eCD fns_nil) (loops_one (lb := lb_cd) (k := 8) (by kernel_rfl) (by kernel_rfl) (loopOk_x0 XDr_ok 6 _ L_cd E_cd (fun e => by cases e <;> exact Nat.le_refl _) [.ret, .exit 0] _ fu_cd e_cd))
def U_cd (y : Option (Left' E_cd)) : Tree (TCTs [cI]) := bif isE .ret y then .leaf ((valE .ret y).1.1, ()) else bif isE (.exit 0) y then .leaf (0, ()) else .fail
def T_cd (l : List Int) : Tree (TCTs [cI]) := bif decide ((l.length : Int) > 64) then .leaf (6, ()) else bif decide ((l.length : Int) < 2) then .leaf (2, ()) else bif decide (0 ≤ IntKind.wrap .u64 (l.length : Int) ∧ IntKind.wrap .u64 (l.length : Int) ≤ 64) then (bif pcF (Int.toNat (IntKind.wrap .u64 (l.length : Int))) != 1 then .leaf (2, ()) else U_cd (iter st_cd (l.length + 1) (hd_cd l l.length 0 (fun _ => none)))) else .fail
theorem T_cd_ok (l : List Int) : (T_cd l).sat (fun y => y = (drV l, ())) := by
  unfold T_cd drV
  refine sat_cond (fun h => ?_) (fun h => ?_)
  · rw [h]; exact rfl
  rw [h]
  have h := of_decide_eq_false h
  have e : IntKind.wrap .u64 (l.length : Int) = (l.length : Int) := wrapU (by omega) (by omega)
  rw [e, show Int.toNat (l.length : Int) = l.length by omega]
  refine sat_cond (fun h2 => ?_) (fun h2 => ?_)
  · rw [h2]
    show _ = _
    cases powB (l.length : Int) <;> exact rfl
  rw [h2]
  have h2 := of_decide_eq_false h2
  refine sat_must (decide_eq_true (by omega)) ?_
  have hp := (pc_pow l.length (by omega)).resolve_right (by omega)
  rw [hp]
  cases hq : powB (l.length : Int) with
  | false => exact rfl
  | true =>
    show (U_cd _).sat (fun y => y = (bif allI (okD l) 0 l then 0 else 2, ()))
    rw [cd_run l (by omega) (pow_even (by omega) hq (by omega))]
    cases allI (okD l) 0 l <;> exact rfl
theorem q_draw : PureOk Try.prog 21 s_draw := q_by X_cd_ok 6 (fun x => T_cd x.1) (fun x => by kernel_rfl) fun x _ _ => T_cd_ok x.1
end Ev
end V
end Go.Proofs.Ytgchccljmjmibaa
