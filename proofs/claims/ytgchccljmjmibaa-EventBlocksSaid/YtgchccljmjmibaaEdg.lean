/- Chapter 11: draws that are valid: both checks say the same. -/
import Derived.Test.YtgchccljmjmibaaEag
namespace Go.Proofs.Ytgchccljmjmibaa
open Go.RowKit
namespace V
namespace Ev
theorem allI_iff {α : Type} (ok : Nat → α → Bool) : ∀ (l : List α) (k : Nat), allI ok k l = true ↔ ∀ (i : Nat) (h : i < l.length), ok (k + i) l[i] = true
  | [], k => by simp [allI]
  | x :: l, k => by
    rw [allI, Bool.and_eq_true, allI_iff ok l (k + 1)]
    constructor
    · rintro ⟨h0, h1⟩ i hi
      cases i with
      | zero => exact h0
      | succ i => have := h1 i (by simpa using hi); rw [show k + 1 + i = k + (i + 1) by omega] at this; exact this
    · intro h
      refine ⟨h 0 (by simp), fun i hi => ?_⟩
      have := h (i + 1) (by simpa using hi)
      rw [show k + 1 + i = k + (i + 1) by omega]
      exact this
/-- the slot beside a slot -/
def par (i : Nat) : Nat := bif i % 2 == 0 then i + 1 else i - 1
theorem xor1_par : ∀ i : Nat, i < 64 → xor1 (i : Int) = (par i : Int) := by decide +kernel
theorem par_lt {n i : Nat} (h : n % 2 = 0) (hi : i < n) : par i < n := by
  unfold par
  cases hb : (i % 2 == 0) with
  | true => rw [beq_iff_eq] at hb; simp only [cond_true]; omega
  | false => simp only [cond_false]; omega
def okD (l : List Int) (i : Nat) (p : Int) : Bool := decide (-1 ≤ p ∧ p ≤ 1000) && ((p == -1 || !(l.take i).contains p) && (p != -1 || getA l (par i) (dflt cI) != -1))
def okR (l : List Int) (i : Nat) (p : Int) : Bool := decide (-1 ≤ p ∧ p ≤ 1000) && ((p == -1 || !(l.take i).contains p) && (i % 2 == 0 || (p != -1 || getA l (i - 1) (dflt cI) != -1)))
/-- the error of a draw -/
def drV (l : List Int) : Int := bif decide ((l.length : Int) > 64) then 6 else bif !powB (l.length : Int) then 2 else bif decide ((l.length : Int) < 2) then 2 else bif allI (okD l) 0 l then 0 else 2
theorem okD_okR (l : List Int) (h2 : l.length % 2 = 0) : allI (okD l) 0 l = allI (okR l) 0 l := by
  rw [Bool.eq_iff_iff, allI_iff, allI_iff]
  constructor
  · intro h i hi
    have := h i hi
    unfold okD at this
    unfold okR
    simp only [Bool.and_eq_true, Nat.zero_add] at this ⊢
    refine ⟨this.1, this.2.1, ?_⟩
    cases hb : (i % 2 == 0) with
    | true => rfl
    | false =>
      have e : par i = i - 1 := by unfold par; rw [hb]; rfl
      rw [e] at this
      exact this.2.2
  · intro h i hi
    have := h i hi
    unfold okR at this
    unfold okD
    simp only [Bool.and_eq_true, Nat.zero_add] at this ⊢
    refine ⟨this.1, this.2.1, ?_⟩
    cases hb : (i % 2 == 0) with
    | false =>
      have e : par i = i - 1 := by unfold par; rw [hb]; rfl
      rw [e]
      rw [hb] at this
      exact this.2.2
    | true =>
      have e : par i = i + 1 := by unfold par; rw [hb]; rfl
      rw [e]
      have hm : i % 2 = 0 := by simpa using hb
      have hi1 : i + 1 < l.length := by omega
      have h3 := h (i + 1) hi1
      unfold okR at h3
      simp only [Bool.and_eq_true, Nat.zero_add] at h3
      have h4 := h3.2.2
      rw [show ((i + 1) % 2 == 0) = false by simp; omega] at h4
      rw [show i + 1 - 1 = i by omega, getA_lt hi] at h4
      rw [getA_lt hi1]
      revert h4
      cases h5 : (l[i] != -1) with
      | true => simp
      | false =>
        cases h6 : (l[i + 1] != -1) with
        | true => simp
        | false => intro h; simp at h
theorem pow_even {n : Nat} (h : n ≤ 64) (hp : powB (n : Int) = true) (h2 : 2 ≤ n) : n % 2 = 0 := by
  revert hp h2
  have : ∀ n : Nat, n ≤ 64 → powB (n : Int) = true → 2 ≤ n → n % 2 = 0 := by decide +kernel
  exact this n h
theorem pc_pow : ∀ n : Nat, n ≤ 64 → (pcF n != 1) = !powB (n : Int) ∨ n < 2 := by decide +kernel
/-! the program's loop -/
def InvC (l : List Int) (i : Nat) (m : Int → Option Int) : Prop := ∀ p : Int, (m p).getD 0 = ((l.take i).count p : Nat)
theorem upd_same {β : Type} (m : Int → Option β) (k : Int) (v : β) : upd m k v k = some v := by
  unfold upd
  rw [show beqD cI k k = (k == k) from rfl]
  simp
theorem upd_other {β : Type} (m : Int → Option β) {k j : Int} (v : β) (h : j ≠ k) : upd m k v j = m j := by
  unfold upd
  rw [show beqD cI j k = (j == k) from rfl, show (j == k) = false by simpa using h]
  rfl
theorem count_le' (l : List Int) (i : Nat) (p : Int) : (l.take i).count p ≤ l.length := Nat.le_trans List.count_le_length (by simp; omega)
theorem cd_run (l : List Int) (h64 : l.length ≤ 64) (h2 : l.length % 2 = 0) : iter st_cd (l.length + 1) (hd_cd l l.length 0 (fun _ => none)) = some (bif allI (okD l) 0 l then ex_cd else rt_cd) := by
  refine iter_allS (st := st_cd) l (fun i m => hd_cd l l.length i m) (okD l) (fun p m => nx_cd m p) rt_cd ex_cd (InvC l) (fun i m hi hv => ?_) (fun m _ => ?_) _ (fun p => by simp)
  · have hc := count_le' l i l[i]
    have hn : (nx_cd m l[i] l[i]).getD 0 = ((l.take i).count l[i] : Nat) + 1 := by
      unfold nx_cd
      rw [upd_same, hv l[i]]
      exact W64_id (by omega) (by omega)
    refine ⟨?_, fun p => ?_⟩
    · show (sm_cd l l l.length i m).run = _
      unfold sm_cd inN
      rw [decide_eq_true (show (i : Int) < (l.length : Int) by omega), decide_eq_true (show 0 ≤ (i : Int) ∧ (i : Int) < (l.length : Int) by omega), show Int.toNat (i : Int) = i by omega, getA_lt hi]
      simp only [cond_true]
      have hpa : par i < l.length := par_lt h2 hi
      have epa : (pa_cd l l l.length i l[i] m).run = some (bif (l[i] != -1 || getA l (par i) (dflt cI) != -1) then .inl (hd_cd l l.length ((i + 1 : Nat) : Int) (nx_cd m l[i])) else .inr rt_cd) := by
        unfold pa_cd inN
        rw [xor1_par i (by omega), decide_eq_true (show 0 ≤ (par i : Int) ∧ (par i : Int) < (l.length : Int) by omega), show Int.toNat (par i : Int) = par i by omega, W64_id (n := (i : Int) + 1) (by omega) (by omega)]
        unfold bne
        cases l[i] == -1 <;> cases getA l (par i) (dflt cI) == -1 <;> rfl
      unfold bd_cd okD
      rw [hn]
      cases h1 : decide (l[i] < -1) with
      | true =>
        rw [decide_eq_false (show ¬ (-1 ≤ l[i] ∧ l[i] ≤ 1000) by have := of_decide_eq_true h1; omega)]
        rfl
      | false =>
        have h1 := of_decide_eq_false h1
        cases h3 : decide (l[i] > 1000) with
        | true =>
          rw [decide_eq_false (show ¬ (-1 ≤ l[i] ∧ l[i] ≤ 1000) by have := of_decide_eq_true h3; omega)]
          rfl
        | false =>
          have h3 := of_decide_eq_false h3
          rw [decide_eq_true (show -1 ≤ l[i] ∧ l[i] ≤ 1000 by omega)]
          simp only [cond_false, Bool.true_and]
          cases h4 : (l[i] != -1) with
          | false =>
            have h5 : (l[i] == -1) = true := by simpa [bne] using h4
            simp only [cond_false]
            rw [epa, h5, h4]
            rfl
          | true =>
            have h5 : (l[i] == -1) = false := by simpa [bne] using h4
            simp only [cond_true]
            rw [h5]
            by_cases hm : l[i] ∈ l.take i
            · have : 0 < (l.take i).count l[i] := List.count_pos_iff.2 hm
              rw [decide_eq_true (show (((l.take i).count l[i] : Nat) : Int) + 1 > 1 by omega), List.contains_iff_mem.2 hm]
              rfl
            · have : (l.take i).count l[i] = 0 := List.count_eq_zero.2 hm
              rw [decide_eq_false (show ¬ ((((l.take i).count l[i] : Nat) : Int) + 1 > 1) by omega)]; simp only [cond_false]; rw [epa, h4]
              have hcn : (l.take i).contains l[i] = false := by
                rw [Bool.eq_false_iff]
                intro h
                exact hm (List.contains_iff_mem.1 h)
              rw [hcn]
              rfl
    · show (upd m l[i] (W64 ((m l[i]).getD 0 + 1)) p).getD 0 = _
      rw [List.take_succ_eq_append_getElem hi, List.count_append]
      by_cases hp : p = l[i]
      · subst hp
        have := hn
        unfold nx_cd at this
        rw [this]
        simp
      · rw [upd_other _ _ hp, hv p]
        have : List.count p [l[i]] = 0 := by simp [List.count_cons]; exact fun h => hp h.symm
        omega
  · show (sm_cd l l l.length l.length m).run = _
    unfold sm_cd
    rw [decide_eq_false (show ¬ (l.length : Int) < (l.length : Int) by omega)]
    rfl
abbrev s_draw : PureT := spec [.sl cI] [cI] (fun _ => true) (fun x => (drV x.1, ()))
noncomputable def X_cd : Ctx := ctxL Try.prog plDr [(21, Try.f21)] [((21, 8), loopSum L_cd E_cd (finX [.ret, .exit 0] st_cd fu_cd))]
theorem X_cd_ok : CtxOk X_cd := ctxL_ok mixed puDr (fns_cons is_eCD fns_nil) (loops_one (lb := lb_cd) (k := 8) (by kernel_rfl) (by kernel_rfl) (loopOk_x0 XDr_ok 6 _ L_cd E_cd (fun e => by cases e <;> exact Nat.le_refl _) [.ret, .exit 0] _ fu_cd e_cd))
def U_cd (y : Option (Left' E_cd)) : Tree (TCTs [cI]) := bif isE .ret y then .leaf ((valE .ret y).1.1, ()) else bif isE (.exit 0) y then .leaf (0, ()) else .fail
def T_cd (l : List Int) : Tree (TCTs [cI]) := bif decide ((l.length : Int) > 64) then .leaf (6, ()) else bif decide ((l.length : Int) < 2) then .leaf (2, ()) else bif decide (0 ≤ IntKind.wrap .u64 (l.length : Int) ∧ IntKind.wrap .u64 (l.length : Int) ≤ 64) then (bif pcF (Int.toNat (IntKind.wrap .u64 (l.length : Int))) != 1 then .leaf (2, ()) else U_cd (iter st_cd (l.length + 1) (hd_cd l l.length 0 (fun _ => none)))) else .fail
theorem T_cd_ok (l : List Int) : (T_cd l).sat (fun y => y = (drV l, ())) := by
  unfold T_cd drV
  refine sat_cond (fun h => ?_) (fun h => ?_)
  · rw [h]; exact rfl
  rw [h]
  have h := of_decide_eq_false h
  have e : IntKind.wrap .u64 (l.length : Int) = (l.length : Int) := wrapU (by omega) (by omega)
  rw [e, show Int.toNat (l.length : Int) = l.length by omega]
  refine sat_cond (fun h2 => ?_) (fun h2 => ?_)
  · rw [h2]
    show _ = _
    cases powB (l.length : Int) <;> exact rfl
  rw [h2]
  have h2 := of_decide_eq_false h2
  refine sat_must (decide_eq_true (by omega)) ?_
  have hp := (pc_pow l.length (by omega)).resolve_right (by omega)
  rw [hp]
  cases hq : powB (l.length : Int) with
  | false => exact rfl
  | true =>
    show (U_cd _).sat (fun y => y = (bif allI (okD l) 0 l then 0 else 2, ()))
    rw [cd_run l (by omega) (pow_even (by omega) hq (by omega))]
    cases allI (okD l) 0 l <;> exact rfl
theorem q_draw : PureOk Try.prog 21 s_draw := q_by X_cd_ok 6 (fun x => T_cd x.1) (fun x => by kernel_rfl) fun x _ _ => T_cd_ok x.1
end Ev
end V
end Go.Proofs.Ytgchccljmjmibaa
/-! Chapter 11: the reference's check of a draw; its check of sheets. -/
namespace Go.Proofs.Ytgchccljmjmibaa
open Go.RowKit
namespace V
namespace Ev
noncomputable def plDq : List (Nat × PureT) := (62, s_find) :: plDr
theorem puDq : PuOk Try.prog plDq := puOk_cons is_rfind.plain q_find puDr
noncomputable def XDq : Ctx := ctx Try.prog plDq []
theorem XDq_ok : CtxOk XDq := ctx_ok mixed puDq fns_nil
noncomputable def lb_rc : Code := (loopsOf (bodyOf Try.f26)).getD 0 .skip
def L_rc : Lay := { keys := [0, 3], ks := [.d (.sl cI), .d cI], bs := [], n := 69, nx := 1000, marks := [] }
def R_rc : Lay := { keys := [], ks := [], bs := [], n := 69, nx := 1000, marks := [] }
def Rt_rc : Lay := { keys := [2], ks := [.d cI], bs := [], n := 69, nx := 1000, marks := [] }
def E_rc : XE → Lay := fun e => match e with | .ret => Rt_rc | _ => R_rc
abbrev cRc := L_rc.T ⊕ Left' E_rc
def rt_rc : Left' E_rc := ⟨.ret, ((2, ()), ())⟩
def ex_rc : Left' E_rc := ⟨.exit 0, ((), ())⟩
def hd_rc (l : List Int) (i : Int) : L_rc.T := ((l, i, ()), ())
def pa_rc (l : List Int) (i p : Int) : Tree cRc := bif Int.tmod i 2 == 1 then inN l.length i (bif p == -1 then inN l.length (W64 (i - 1)) (bif getA l (Int.toNat (W64 (i - 1))) (dflt cI) == -1 then .leaf (.inr rt_rc) else .leaf (.inl (hd_rc l (W64 (i + 1))))) else .leaf (.inl (hd_rc l (W64 (i + 1))))) else .leaf (.inl (hd_rc l (W64 (i + 1))))
def bd_rc (l : List Int) (i p : Int) : Tree cRc := bif decide (p < -1) then .leaf (.inr rt_rc) else inN l.length i (bif decide (p > 1000) then .leaf (.inr rt_rc) else inN l.length i (bif p != -1 then inN l.length i (bif fiV l p != i then .leaf (.inr rt_rc) else pa_rc l i p) else pa_rc l i p))
def sm_rc (l : List Int) (i : Int) : Tree cRc := bif decide (i < (l.length : Int)) then inN l.length i (bd_rc l i (getA l (Int.toNat i) (dflt cI))) else .leaf (.inr ex_rc)
def st_rc (g : L_rc.T) : Tree cRc := sm_rc g.1.1 g.1.2.1
def fu_rc (g : L_rc.T) : Nat := (g.1.1 : List Int).length + 1
theorem e_rc (g : L_rc.T) : evC Try.prog (evFn XDq 6) XDq.pures 26 XDq.u (fun _ => none) lb_rc (L_rc.of g) (stepOut L_rc E_rc) = st_rc g := by kernel_rfl
theorem findIdx_take (l : List Int) (i : Nat) (hi : i < l.length) (hp : l[i] ≠ -1) : (fiV l l[i] != (i : Int)) = (l.take i).contains l[i] := by
  have hf : fiB l[i] l[i] = true := by unfold fiB; simp [hp]
  have ha : l.any (fiB l[i]) = true := List.any_eq_true.2 ⟨l[i], List.getElem_mem hi, hf⟩
  unfold fiV
  rw [ha]
  simp only [cond_true]
  have hlt : l.findIdx (fiB l[i]) ≤ i := by
    rcases Nat.lt_or_ge i (l.findIdx (fiB l[i])) with h | h
    · exact absurd hf (by simpa using List.not_of_lt_findIdx h)
    · exact h
  rw [Bool.eq_iff_iff, bne_iff_ne, List.contains_iff_mem]
  constructor
  · intro h
    have h1 : l.findIdx (fiB l[i]) < i := by omega
    have h2 : fiB l[i] (l[l.findIdx (fiB l[i])]'(by omega)) = true := List.findIdx_getElem (w := by omega)
    unfold fiB at h2
    simp only [Bool.and_eq_true, beq_iff_eq] at h2
    have h3 : l[l.findIdx (fiB l[i])]'(by omega) ∈ l.take i := by
      rw [List.mem_take_iff_getElem]
      exact ⟨l.findIdx (fiB l[i]), by omega, rfl⟩
    have h4 := h2.1
    unfold fiB at h3
    rw [show (l[List.findIdx (fun x => (x == l[i]) && (l[i] != -1)) l]'(by unfold fiB at h1; omega)) = l[i] from h4] at h3
    exact h3
  · intro h
    rw [List.mem_take_iff_getElem] at h
    obtain ⟨j, hj, hjl⟩ := h
    have hjf : fiB l[i] (l[j]'(by omega)) = true := by unfold fiB; simp [hjl, hp]
    have : l.findIdx (fiB l[i]) ≤ j := by
      rcases Nat.lt_or_ge j (l.findIdx (fiB l[i])) with h | h
      · exact absurd hjf (by simpa using List.not_of_lt_findIdx h)
      · exact h
    omega
theorem rc_run (l : List Int) (h64 : l.length ≤ 64) : iter st_rc (l.length + 1) (hd_rc l 0) = some (bif allI (okR l) 0 l then ex_rc else rt_rc) := by
  refine iter_allS (st := st_rc) l (fun i (_ : Unit) => hd_rc l i) (okR l) (fun _ s => s) rt_rc ex_rc (fun _ _ => True) (fun i m hi _ => ⟨?_, trivial⟩) (fun m _ => ?_) () trivial
  · show (sm_rc l i).run = _
    unfold sm_rc inN
    rw [decide_eq_true (show (i : Int) < (l.length : Int) by omega), decide_eq_true (show 0 ≤ (i : Int) ∧ (i : Int) < (l.length : Int) by omega), show Int.toNat (i : Int) = i by omega, getA_lt hi]
    simp only [cond_true]
    have epa : (pa_rc l i l[i]).run = some (bif (i % 2 == 0 || (l[i] != -1 || getA l (i - 1) (dflt cI) != -1)) then .inl (hd_rc l ((i + 1 : Nat) : Int)) else .inr rt_rc) := by
      unfold pa_rc inN
      rw [decide_eq_true (show 0 ≤ (i : Int) ∧ (i : Int) < (l.length : Int) by omega), W64_id (n := (i : Int) + 1) (by omega) (by omega)]
      have et : Int.tmod (i : Int) 2 = ((i % 2 : Nat) : Int) := by rw [Int.tmod_eq_emod_of_nonneg (by omega)]; omega
      rw [et]
      by_cases hm : i % 2 = 0
      · rw [hm]; rfl
      · have h1 : i % 2 = 1 := by omega
        rw [h1, W64_id (n := (i : Int) - 1) (by omega) (by omega), decide_eq_true (show 0 ≤ (i : Int) - 1 ∧ (i : Int) - 1 < (l.length : Int) by omega), show Int.toNat ((i : Int) - 1) = i - 1 by omega]
        unfold bne
        cases l[i] == -1 <;> cases getA l (i - 1) (dflt cI) == -1 <;> rfl
    unfold bd_rc okR inN
    rw [decide_eq_true (show 0 ≤ (i : Int) ∧ (i : Int) < (l.length : Int) by omega)]
    simp only [cond_true]
    cases h1 : decide (l[i] < -1) with
    | true =>
      rw [decide_eq_false (show ¬ (-1 ≤ l[i] ∧ l[i] ≤ 1000) by have := of_decide_eq_true h1; omega)]
      rfl
    | false =>
      have h1 := of_decide_eq_false h1
      cases h3 : decide (l[i] > 1000) with
      | true =>
        rw [decide_eq_false (show ¬ (-1 ≤ l[i] ∧ l[i] ≤ 1000) by have := of_decide_eq_true h3; omega)]
        rfl
      | false =>
        have h3 := of_decide_eq_false h3
        rw [decide_eq_true (show -1 ≤ l[i] ∧ l[i] ≤ 1000 by omega)]
        simp only [cond_false, Bool.true_and]
        cases h4 : (l[i] != -1) with
        | false =>
          have h5 : (l[i] == -1) = true := by simpa [bne] using h4
          simp only [cond_false]
          rw [epa, h5, h4]
          rfl
        | true =>
          have h5 : (l[i] == -1) = false := by simpa [bne] using h4
          simp only [cond_true]
          rw [h5, findIdx_take l i hi (by simpa using h4)]
          cases (l.take i).contains l[i] with
          | true => rfl
          | false => simp only [cond_false]; rw [epa, h4]; rfl
  · show (sm_rc l l.length).run = _
    unfold sm_rc
    rw [decide_eq_false (show ¬ (l.length : Int) < (l.length : Int) by omega)]
    rfl
noncomputable def X_rc : Ctx := ctxL Try.prog plDq [(26, Try.f26)] [((26, 6), loopSum L_rc E_rc (finX [.ret, .exit 0] st_rc fu_rc))]
theorem X_rc_ok : CtxOk X_rc := ctxL_ok mixed puDq (fns_cons is_rCD fns_nil) (loops_one (lb := lb_rc) (k := 6) (by kernel_rfl) (by kernel_rfl) (loopOk_x0 XDq_ok 6 _ L_rc E_rc (fun e => by cases e <;> exact Nat.le_refl _) [.ret, .exit 0] _ fu_rc e_rc))
def U_rc (y : Option (Left' E_rc)) : Tree (TCTs [cI]) := bif isE .ret y then .leaf ((valE .ret y).1.1, ()) else bif isE (.exit 0) y then .leaf (0, ()) else .fail
def T_rc (l : List Int) : Tree (TCTs [cI]) := bif decide ((l.length : Int) > 64) then .leaf (6, ()) else bif !powB (l.length : Int) then .leaf (2, ()) else bif decide ((l.length : Int) < 2) then .leaf (2, ()) else U_rc (iter st_rc (l.length + 1) (hd_rc l 0))
theorem T_rc_ok (l : List Int) : (T_rc l).sat (fun y => y = (drV l, ())) := by
  unfold T_rc drV
  refine sat_cond (fun h => ?_) (fun h => ?_)
  · rw [h]; exact rfl
  rw [h]
  have h := of_decide_eq_false h
  cases hq : powB (l.length : Int) with
  | false => exact rfl
  | true =>
    refine sat_cond (fun h2 => ?_) (fun h2 => ?_)
    · cases h2
    refine sat_cond (fun h2 => ?_) (fun h2 => ?_)
    · rw [h2]; exact rfl
    rw [h2]
    have h2 := of_decide_eq_false h2
    show (U_rc _).sat (fun y => y = (bif allI (okD l) 0 l then 0 else 2, ()))
    rw [rc_run l (by omega), okD_okR l (pow_even (by omega) hq (by omega))]
    cases allI (okR l) 0 l <;> exact rfl
theorem q_rdraw : PureOk Try.prog 26 s_draw := q_by X_rc_ok 6 (fun x => T_rc x.1) (fun x => by kernel_rfl) fun x _ _ => T_rc_ok x.1
end Ev
end V
end Go.Proofs.Ytgchccljmjmibaa
/-! Chapter 11: sheets: both checks say the same; the sheets that count: loops. -/
namespace Go.Proofs.Ytgchccljmjmibaa
open Go.RowKit
namespace V
namespace Ev
theorem is_chk : FnIs Try.prog (64, Try.f64) := ⟨Try.func64, by kernel_rfl, by kernel_rfl⟩
theorem is_rsh : FnIs Try.prog (66, Try.f66) := ⟨Try.func66, by kernel_rfl, by kernel_rfl⟩
theorem is_cnt : FnIs Try.prog (65, Try.f65) := ⟨Try.func65, by kernel_rfl, by kernel_rfl⟩
theorem is_cnt1 : FnIs Try.prog (99, Try.f99) := ⟨Try.func99, by kernel_rfl, by kernel_rfl⟩
theorem is_cnt2 : FnIs Try.prog (100, Try.f100) := ⟨Try.func100, by kernel_rfl, by kernel_rfl⟩
theorem is_cnt3 : FnIs Try.prog (101, Try.f101) := ⟨Try.func101, by kernel_rfl, by kernel_rfl⟩
theorem is_bef : FnIs Try.prog (102, Try.f102) := ⟨Try.func102, by kernel_rfl, by kernel_rfl⟩
theorem is_rlater : FnIs Try.prog (103, Try.f103) := ⟨Try.func103, by kernel_rfl, by kernel_rfl⟩
theorem is_rcounts : FnIs Try.prog (67, Try.f67) := ⟨Try.func67, by kernel_rfl, by kernel_rfl⟩
noncomputable def lb_sh : Code := (loopsOf (bodyOf Try.f66)).getD 0 .skip
def L_sh : Lay := { keys := [0, 3], ks := [.d (.sl cSc), .d cI], bs := [], n := 41, nx := 1000, marks := [] }
def R_sh : Lay := { keys := [], ks := [], bs := [], n := 41, nx := 1000, marks := [] }
def Rt_sh : Lay := { keys := [2], ks := [.d cI], bs := [], n := 41, nx := 1000, marks := [] }
def E_sh : XE → Lay := fun e => match e with | .ret => Rt_sh | _ => R_sh
abbrev cSh := L_sh.T ⊕ Left' E_sh
abbrev s_c1 : PureT := spec [cSc] [cI] (fun _ => true) (fun x => (x.1.2.1, ()))
abbrev s_c2 : PureT := spec [cSc] [cI] (fun _ => true) (fun x => (x.1.2.2.1, ()))
abbrev s_c3 : PureT := spec [cSc] [cI] (fun _ => true) (fun x => (x.1.2.2.2.1, ()))
theorem q_c1 : PureOk Try.prog 99 s_c1 := q_leaf (ctx_ok mixed puOk_nil (fns_cons is_cnt1 fns_nil)) 3 (fun _ => by kernel_rfl)
theorem q_c2 : PureOk Try.prog 100 s_c2 := q_leaf (ctx_ok mixed puOk_nil (fns_cons is_cnt2 fns_nil)) 3 (fun _ => by kernel_rfl)
theorem q_c3 : PureOk Try.prog 101 s_c3 := q_leaf (ctx_ok mixed puOk_nil (fns_cons is_cnt3 fns_nil)) 3 (fun _ => by kernel_rfl)
noncomputable def plCo : List (Nat × PureT) := [(99, s_c1), (100, s_c2), (101, s_c3)]
theorem puCo : PuOk Try.prog plCo := puOk_cons is_cnt1.plain q_c1 (puOk_cons is_cnt2.plain q_c2 (puOk_cons is_cnt3.plain q_c3 puOk_nil))
noncomputable def XCo : Ctx := ctxU 4 Try.prog plCo [(102, Try.f102)]
theorem XCo_ok : CtxOk XCo := ctxU_ok (u := 4) mixed puCo (fns_cons is_bef fns_nil)
noncomputable def lb_co : Code := (loopsOf (bodyOf Try.f65)).getD 0 .skip
abbrev kRu : List SK := [.f 99 [] [], .f 100 [] [], .f 101 [] []]
def L_co (k : Nat) : Lay := { keys := [3, 4, 14, 15, 16], ks := [.sli k 0 1 3 3, .q (k + 1), .d (.sl cSc), .d cI, .d cI], bs := [(k, 146, kRu), (k + 1, 0, [.m cI cSc])], n := 41, nx := 1000, marks := [] }
def R_co (k : Nat) : Lay := { keys := [4], ks := [.q (k + 1)], bs := [(k + 1, 0, [.m cI cSc])], n := 41, nx := 1000, marks := [] }
def E_co (k : Nat) : XE → Lay := fun _ => R_co k
abbrev cCo (k : Nat) := (L_co k).T ⊕ Left' (E_co k)
/-! sheets: the reference's check -/
def rt_sh : Left' E_sh := ⟨.ret, ((2, ()), ())⟩
def ex_sh : Left' E_sh := ⟨.exit 0, ((), ())⟩
def hd_sh (l : List (TCT cSc)) (i : Int) : L_sh.T := ((l, i, ()), ())
def bd_sh (l : List (TCT cSc)) (i v w p : Int) : Tree cSh := bif decide (v < 0) then .leaf (.inr rt_sh) else bif decide (w < 0) then .leaf (.inr rt_sh) else bif decide (w > 1) then .leaf (.inr rt_sh) else bif decide (p < 1) then .leaf (.inr rt_sh) else bif decide (p > 26) then .leaf (.inr rt_sh) else .leaf (.inl (hd_sh l (W64 (i + 1))))
def sm_sh (l : List (TCT cSc)) (i : Int) (s : TCT cSc) : Tree cSh := bif decide (i < (l.length : Int)) then inN l.length i (bd_sh l i s.2.1 s.2.2.1 s.2.2.2.1) else .leaf (.inr ex_sh)
def st_sh (g : L_sh.T) : Tree cSh := sm_sh g.1.1 g.1.2.1 (getA (g.1.1 : List (TCT cSc)) (Int.toNat g.1.2.1) (dflt cSc))
def fu_sh (g : L_sh.T) : Nat := (g.1.1 : List (TCT cSc)).length + 1
theorem e_sh (g : L_sh.T) : evC Try.prog (evFn XDq 6) XDq.pures 66 XDq.u (fun _ => none) lb_sh (L_sh.of g) (stepOut L_sh E_sh) = st_sh g := by kernel_rfl
theorem clr1_iff (w : Int) (h1 : -9223372036854775808 ≤ w) (h2 : w ≤ 9223372036854775807) : (clr1 w != 0) = (decide (w < 0) || decide (w > 1)) := by
  have key : (BitVec.ofInt 64 w &&& ~~~BitVec.ofInt 64 1 = 0#64) ↔ (w = 0 ∨ w = 1) := by
    constructor
    · intro h
      have hb : (BitVec.ofInt 64 w).toNat < 2 ^ 1 := by
        refine Nat.lt_pow_two_of_testBit _ fun i hi => ?_
        have h3 := congrArg (fun x => x.toNat.testBit i) h
        rcases Nat.lt_or_ge i 64 with h64 | h64
        · have h4 := congrArg (fun x => x.getLsbD i) h
          simp only [BitVec.getLsbD_and, BitVec.getLsbD_not, BitVec.getLsbD_zero] at h4
          have h5 : (BitVec.ofInt 64 1).getLsbD i = false := by
            rw [show BitVec.ofInt 64 1 = 1#64 from rfl, BitVec.getLsbD_one]
            simp; omega
          rw [h5] at h4
          simp only [h64, decide_true, Bool.not_false, Bool.and_true, Bool.true_and] at h4
          exact h4
        · exact Nat.testBit_lt_two_pow (Nat.lt_of_lt_of_le (BitVec.isLt _) (Nat.pow_le_pow_right (by omega) h64))
      rw [BitVec.toNat_ofInt] at hb
      omega
    · rintro (rfl | rfl) <;> rfl
  have e : clr1 w = W64 ↑(BitVec.toNat (BitVec.ofInt 64 w &&& ~~~BitVec.ofInt 64 1)) := rfl
  have hw : ∀ x : BitVec 64, W64 (x.toNat : Int) = 0 ↔ x = 0#64 := by
    intro x
    constructor
    · intro h
      have hx := x.isLt
      have : W64 (x.toNat : Int) = IntKind.wrap .i64 (x.toNat : Int) := rfl
      rw [this] at h
      unfold IntKind.wrap at h
      simp [IntKind.bits, IntKind.signed] at h
      apply BitVec.eq_of_toNat_eq
      rw [show (0#64).toNat = 0 from rfl]
      split at h <;> omega
    · rintro rfl; rfl
  have h3 := (hw (BitVec.ofInt 64 w &&& ~~~BitVec.ofInt 64 1)).trans key
  rw [← e] at h3
  rw [Bool.eq_iff_iff, bne_iff_ne, Bool.or_eq_true, decide_eq_true_iff, decide_eq_true_iff, Ne, h3]
  omega
theorem badS_or (s : TCT cSc) (h : WFD cSc s) : badS s = (decide (s.2.1 < 0) || (decide (s.2.2.1 < 0) || (decide (s.2.2.1 > 1) || (decide (s.2.2.2.1 < 1) || decide (s.2.2.2.1 > 26))))) := by
  unfold badS
  rw [clr1_iff s.2.2.1 h.2.2.1.1 h.2.2.1.2, Bool.or_assoc]
theorem bd_sh_run (l : List (TCT cSc)) (i : Int) (s : TCT cSc) (h : WFD cSc s) : (bd_sh l i s.2.1 s.2.2.1 s.2.2.2.1).run = some (bif badS s then .inr rt_sh else .inl (hd_sh l (W64 (i + 1)))) := by
  rw [badS_or s h]
  unfold bd_sh
  generalize decide (s.2.1 < 0) = a
  generalize decide (s.2.2.1 < 0) = b
  generalize decide (s.2.2.1 > 1) = c
  generalize decide (s.2.2.2.1 < 1) = d
  generalize decide (s.2.2.2.1 > 26) = e
  cases a <;> cases b <;> cases c <;> cases d <;> cases e <;> rfl
theorem sh_run (l : List (TCT cSc)) (hw : WFD (.sl cSc) l) : iter st_sh (l.length + 1) (hd_sh l 0) = some (bif l.any badS then rt_sh else ex_sh) := by
  have hl' : (l.length : Int) ≤ 9223372036854775807 := hw.1
  refine iter_find (st := st_sh) l (fun i => hd_sh l i) badS (fun _ => rt_sh) ex_sh (fun i hi => ?_) ?_
  · show (sm_sh l i (getA l (Int.toNat (i : Int)) (dflt cSc))).run = _
    unfold sm_sh inN
    rw [decide_eq_true (show (i : Int) < (l.length : Int) by omega), decide_eq_true (show 0 ≤ (i : Int) ∧ (i : Int) < (l.length : Int) by omega), show Int.toNat (i : Int) = i by omega, getA_lt hi]
    simp only [cond_true]
    rw [bd_sh_run l i l[i] (hw.2 _ (List.getElem_mem hi)), W64_id (n := (i : Int) + 1) (by omega) (by omega)]
    rfl
  · show (sm_sh l l.length (getA l (Int.toNat (l.length : Int)) (dflt cSc))).run = _
    unfold sm_sh
    rw [decide_eq_false (show ¬ (l.length : Int) < (l.length : Int) by omega)]
    rfl
abbrev s_chk : PureT := spec [.sl cSc] [cI] (fun _ => true) (fun x => (chkV x.1, ()))
noncomputable def X_sh : Ctx := ctxL Try.prog plDq [(66, Try.f66)] [((66, 4), loopSum L_sh E_sh (finX [.ret, .exit 0] st_sh fu_sh))]
theorem X_sh_ok : CtxOk X_sh := ctxL_ok mixed puDq (fns_cons is_rsh fns_nil) (loops_one (lb := lb_sh) (k := 4) (by kernel_rfl) (by kernel_rfl) (loopOk_x0 XDq_ok 6 _ L_sh E_sh (fun e => by cases e <;> exact Nat.le_refl _) [.ret, .exit 0] _ fu_sh e_sh))
def U_sh (y : Option (Left' E_sh)) : Tree (TCTs [cI]) := bif isE .ret y then .leaf ((valE .ret y).1.1, ()) else bif isE (.exit 0) y then .leaf (0, ()) else .fail
def T_sh (l : List (TCT cSc)) : Tree (TCTs [cI]) := bif decide ((l.length : Int) > 400) then .leaf (6, ()) else U_sh (iter st_sh (l.length + 1) (hd_sh l 0))
theorem T_sh_ok (l : List (TCT cSc)) (hw : WFD (.sl cSc) l) : (T_sh l).sat (fun y => y = (chkV l, ())) := by
  unfold T_sh chkV
  refine sat_cond (fun h => ?_) (fun h => ?_)
  · rw [h]; exact rfl
  rw [h, sh_run l hw]
  cases l.any badS <;> exact rfl
theorem q_rsheets : PureOk Try.prog 66 s_chk := q_by X_sh_ok 6 (fun x => T_sh x.1) (fun x => by kernel_rfl) fun x _ hw => T_sh_ok x.1 hw.1
def T_chk (l : List (TCT cSc)) : Tree (TCTs [cI]) := bif decide ((l.length : Int) > 400) then .leaf (6, ()) else bif l.any (p_Sco ()) then .leaf (2, ()) else .leaf (0, ())
theorem q_chk : PureOk Try.prog 64 s_chk := q_by (ctx_ok mixed (puOk_cons is_cfSco.plain q_cfSco puOk_nil) (fns_cons is_chk fns_nil)) 6 (fun x => T_chk x.1) (fun x => by kernel_rfl) fun x _ _ => by
  show (T_chk x.1).sat _
  unfold T_chk chkV
  refine sat_cond (fun h => ?_) (fun h => ?_)
  · rw [h]; exact rfl
  rw [h, show x.1.any (p_Sco ()) = x.1.any badS from rfl]
  cases x.1.any badS <;> exact rfl
/-! the sheets that count: a round -/
def eS (s : TCT cSc) : TCT cSc := (s.1, s.2.1, s.2.2.1, s.2.2.2.1, ())
abbrev cMp := Int → Option (TCT cSc)
section
variable {G E : Type} (hd : Int → cMp → G) (ex : cMp → E) (l : List (TCT cSc)) (n i : Int) (m : cMp)
def or0 (o : Option (TCT cSc)) : TCT cSc := o.getD (0, 0, 0, 0, ())
def pu_co (s : TCT cSc) : Tree (G ⊕ E) := .leaf (.inl (hd (W64 (i + 1)) (upd m s.1 (eS s))))
def ke_co : Tree (G ⊕ E) := .leaf (.inl (hd (W64 (i + 1)) m))
def b2_co (s o : TCT cSc) : Tree (G ⊕ E) :=
  bif s.2.1 != o.2.1 then (bif decide (s.2.1 > o.2.1) then pu_co hd i m s else ke_co hd i m) else bif s.2.2.1 != o.2.2.1 then (bif decide (s.2.2.1 > o.2.2.1) then pu_co hd i m s else ke_co hd i m) else bif s.2.2.2.1 != o.2.2.2.1 then (bif decide (s.2.2.2.1 > o.2.2.2.1) then pu_co hd i m s else ke_co hd i m) else ke_co hd i m
def bd_co (s : TCT cSc) : Tree (G ⊕ E) := bif !(m s.1).isSome then pu_co hd i m s else b2_co hd i m s (or0 (m s.1))
def sm_co : Tree (G ⊕ E) := bif decide (i < n) then inN l.length i (bd_co hd i m (getA l (Int.toNat i) (dflt cSc))) else .leaf (.inr (ex m))
end
/-! in sides: no block of the caller's -/
def hd_co0 (l : List (TCT cSc)) (n i : Int) (m : cMp) : (L_co 0).T := (((), (), l, n, i, ()), ((((), ()), ((), ()), ((), ()), ()), (m, ()), ()))
def ex_co0 (m : cMp) : Left' (E_co 0) := ⟨.exit 0, (((), ()), ((m, ()), ()))⟩
def st_co0 (g : (L_co 0).T) : Tree (cCo 0) := sm_co (hd_co0 g.1.2.2.1 g.1.2.2.2.1) ex_co0 g.1.2.2.1 g.1.2.2.2.1 g.1.2.2.2.2.1 g.2.2.1.1
def fu_co0 (g : (L_co 0).T) : Nat := (g.1.2.2.1 : List (TCT cSc)).length + 1
theorem e_co0 (g : (L_co 0).T) : evC Try.prog (evFn XCo 6) XCo.pures 65 XCo.u (fun _ => none) lb_co ((L_co 0).of g) (stepOut (L_co 0) (E_co 0)) = st_co0 g := by kernel_rfl
/-! in Counts: a block of the caller's lies there -/
abbrev kSc : List SK := [.d cI, .d cI, .d cI, .d cI]
def L_c1 : Lay := { keys := [3, 4, 14, 15, 16], ks := [.sli 1 0 1 3 3, .q 2, .d (.sl cSc), .d cI, .d cI], bs := [(0, 62, kSc), (1, 146, kRu), (2, 0, [.m cI cSc])], n := 41, nx := 1000, marks := [] }
def R_c1 : Lay := { keys := [4], ks := [.q 2], bs := [(0, 62, kSc), (2, 0, [.m cI cSc])], n := 41, nx := 1000, marks := [] }
def E_c1 : XE → Lay := fun _ => R_c1
abbrev cC1 := L_c1.T ⊕ Left' E_c1
def hd_c1 (z : SKTs kSc) (l : List (TCT cSc)) (n i : Int) (m : cMp) : L_c1.T := (((), (), l, n, i, ()), (z, (((), ()), ((), ()), ((), ()), ()), (m, ()), ()))
def ex_c1 (z : SKTs kSc) (m : cMp) : Left' E_c1 := ⟨.exit 0, (((), ()), (z, (m, ()), ()))⟩
def st_c1 (g : L_c1.T) : Tree cC1 := sm_co (hd_c1 g.2.1 g.1.2.2.1 g.1.2.2.2.1) (ex_c1 g.2.1) g.1.2.2.1 g.1.2.2.2.1 g.1.2.2.2.2.1 g.2.2.2.1.1
def fu_c1 (g : L_c1.T) : Nat := (g.1.2.2.1 : List (TCT cSc)).length + 1
theorem e_c1 (g : L_c1.T) : evC Try.prog (evFn XCo 6) XCo.pures 65 XCo.u (fun _ => none) lb_co (L_c1.of g) (stepOut L_c1 E_c1) = st_c1 g := by kernel_rfl
end Ev
end V
end Go.Proofs.Ytgchccljmjmibaa
/-! Chapter 11: the sheets that count. -/
namespace Go.Proofs.Ytgchccljmjmibaa
open Go.RowKit
namespace V
namespace Ev
theorem is_eCounts : FnIs Try.prog (31, Try.f31) := ⟨Try.func31, by kernel_rfl, by kernel_rfl⟩
theorem is_rCounts : FnIs Try.prog (32, Try.f32) := ⟨Try.func32, by kernel_rfl, by kernel_rfl⟩
/-- a sheet counts instead of another one -/
def laB (a b : TCT cSc) : Bool := bif a.2.1 != b.2.1 then decide (a.2.1 > b.2.1) else bif a.2.2.1 != b.2.2.1 then decide (a.2.2.1 > b.2.2.1) else decide (a.2.2.2.1 > b.2.2.2.1)
/-- a sheet is put with those that count -/
def cntS (m : cMp) (s : TCT cSc) : cMp := bif !(m s.1).isSome || laB s (or0 (m s.1)) then upd m s.1 s else m
def cntM (l : List (TCT cSc)) : cMp := l.foldl cntS (fun _ => none)
theorem bd_co_run {G E : Type} (hd : Int → cMp → G) (i : Int) (m : cMp) (s : TCT cSc) : (bd_co (E := E) hd i m s).run = some (.inl (hd (W64 (i + 1)) (cntS m s))) := by
  unfold bd_co cntS
  cases (m s.1).isSome with
  | false => rfl
  | true =>
    simp only [Bool.not_true, cond_false, Bool.false_or]
    unfold b2_co laB pu_co ke_co
    cases h1 : (s.2.1 != (or0 (m s.1)).2.1) with
    | true => simp only [cond_true]; cases decide (s.2.1 > (or0 (m s.1)).2.1) <;> rfl
    | false =>
      simp only [cond_false]
      cases h2 : (s.2.2.1 != (or0 (m s.1)).2.2.1) with
      | true => simp only [cond_true]; cases decide (s.2.2.1 > (or0 (m s.1)).2.2.1) <;> rfl
      | false =>
        simp only [cond_false]
        cases h3 : (s.2.2.2.1 != (or0 (m s.1)).2.2.2.1) with
        | true => simp only [cond_true]; cases decide (s.2.2.2.1 > (or0 (m s.1)).2.2.2.1) <;> rfl
        | false =>
          have e3 : s.2.2.2.1 = (or0 (m s.1)).2.2.2.1 := by simpa [bne] using h3
          rw [decide_eq_false (show ¬ (s.2.2.2.1 > (or0 (m s.1)).2.2.2.1) from fun h => by rw [e3] at h; exact Int.lt_irrefl _ h)]
          rfl
theorem co_run {G E : Type} {st : G → Tree (G ⊕ E)} (hd : Int → cMp → G) (ex : cMp → E) (l : List (TCT cSc)) (hl : (l.length : Int) ≤ maxK .i64) (h : ∀ i m, st (hd i m) = sm_co hd ex l l.length i m) :
    iter st (l.length + 1) (hd 0 (fun _ => none)) = some (ex (cntM l)) := by
  have hl' : (l.length : Int) ≤ 9223372036854775807 := hl
  refine iter_foldl (st := st) l hd cntS ex (fun _ _ => True) (fun i m hi _ => ⟨?_, trivial⟩) (fun m _ => ?_) _ trivial
  · rw [h]
    unfold sm_co inN
    rw [decide_eq_true (show (i : Int) < (l.length : Int) by omega), decide_eq_true (show 0 ≤ (i : Int) ∧ (i : Int) < (l.length : Int) by omega), show Int.toNat (i : Int) = i by omega, getA_lt hi]
    simp only [cond_true]
    rw [bd_co_run, W64_id (n := (i : Int) + 1) (by omega) (by omega)]
    rfl
  · rw [h]
    unfold sm_co
    rw [decide_eq_false (show ¬ (l.length : Int) < (l.length : Int) by omega)]
    rfl
/-- the loop of counting in a caller -/
theorem l_co0 : LoopOk Try.prog 65 lb_co (loopSum (L_co 0) (E_co 0) (finX [.exit 0] st_co0 fu_co0)) := loopOk_x0 XCo_ok 6 _ (L_co 0) (E_co 0) (fun _ => Nat.le_refl _) [.exit 0] _ fu_co0 e_co0
theorem l_c1 : LoopOk Try.prog 65 lb_co (loopSum L_c1 E_c1 (finX [.exit 0] st_c1 fu_c1)) := loopOk_x0 XCo_ok 6 _ L_c1 E_c1 (fun _ => Nat.le_refl _) [.exit 0] _ fu_c1 e_c1
noncomputable def plCc : List (Nat × PureT) := (64, s_chk) :: plCo
theorem puCc : PuOk Try.prog plCc := puOk_cons is_chk.plain q_chk puCo
noncomputable def X_Co : Ctx := ctxL Try.prog plCc [(31, Try.f31), (65, Try.f65)] [((65, 4), loopSum L_c1 E_c1 (finX [.exit 0] st_c1 fu_c1))]
theorem X_Co_ok : CtxOk X_Co := ctxL_ok mixed puCc (fns_cons is_eCounts (fns_cons is_cnt fns_nil)) (loops_cons (loops_none (by kernel_rfl)) (loops_cons (loops_of (ds := [lb_co]) (by kernel_rfl) ⟨one_key (k := 4) (by kernel_rfl) rfl l_c1, trivial⟩) loops_nil))
/-- the sheet that counts for a match, and the error -/
def coV (l : List (TCT cSc)) (n : Int) : TCT cSc × Int := bif chkV l != 0 then ((0, 0, 0, 0, ()), chkV l) else bif !(cntM l n).isSome then ((0, 0, 0, 0, ()), 5) else (or0 (cntM l n), 0)
abbrev s_Counts : PureT := spec [.sl cSc, cI] [cSc, cI] (fun _ => true) (fun x => (eS (coV x.1 x.2.1).1, (coV x.1 x.2.1).2, ()))
def U_Co (n : Int) (m : cMp) : Tree (TCTs [cSc, cI]) := bif !(m n).isSome then .leaf ((0, 0, 0, 0, ()), 5, ()) else .leaf (eS (or0 (m n)), 0, ())
def V_Co (n : Int) (y : Option (Left' E_c1)) : Tree (TCTs [cSc, cI]) := bif isE (.exit 0) y then U_Co n (valE (.exit 0) y).2.2.1.1 else .fail
def T_Co (l : List (TCT cSc)) (n : Int) : Tree (TCTs [cSc, cI]) := bif chkV l != 0 then .leaf ((0, 0, 0, 0, ()), chkV l, ()) else V_Co n (iter st_c1 (l.length + 1) (hd_c1 (0, 0, 0, 0, ()) l l.length 0 (fun _ => none)))
theorem T_Co_ok (l : List (TCT cSc)) (n : Int) (hl : (l.length : Int) ≤ maxK .i64) : (T_Co l n).sat (fun y => y = (eS (coV l n).1, (coV l n).2, ())) := by
  unfold T_Co coV
  refine sat_cond (fun h => ?_) (fun h => ?_)
  · rw [h]; exact rfl
  rw [h, co_run (st := st_c1) (hd_c1 (0, 0, 0, 0, ()) l l.length) (ex_c1 (0, 0, 0, 0, ())) l hl (fun _ _ => rfl)]
  show (U_Co n (cntM l)).sat _
  unfold U_Co
  cases (cntM l n).isSome <;> exact rfl
theorem q_Counts : PureOk Try.prog 31 s_Counts := q_by X_Co_ok 6 (fun x => T_Co x.1 x.2.1) (fun x => by kernel_rfl) fun x _ hw => T_Co_ok x.1 x.2.1 hw.1.1
abbrev s_later : PureT := spec [cSc, cSc] [.b] (fun _ => true) (fun x => (laB x.1 x.2.1, ()))
def T_later (a b : TCT cSc) : TBo := bif a.2.1 != b.2.1 then .leaf (decide (a.2.1 > b.2.1), ()) else bif a.2.2.1 != b.2.2.1 then .leaf (decide (a.2.2.1 > b.2.2.1), ()) else .leaf (decide (a.2.2.2.1 > b.2.2.2.1), ())
theorem q_later : PureOk Try.prog 103 s_later := q_by (ctx_ok mixed puOk_nil (fns_cons is_rlater fns_nil)) 6 (fun x => T_later x.1 x.2.1) (fun x => by kernel_rfl) fun x _ _ => by
  show (T_later x.1 x.2.1).sat _
  unfold T_later laB
  refine sat_cond (fun h => ?_) (fun h => ?_)
  · rw [h]; exact rfl
  rw [h]
  refine sat_cond (fun h => ?_) (fun h => ?_)
  · rw [h]; exact rfl
  rw [h]
  exact rfl
noncomputable def plLa : List (Nat × PureT) := (103, s_later) :: plDq
theorem puLa : PuOk Try.prog plLa := puOk_cons is_rlater.plain q_later puDq
noncomputable def XLa : Ctx := ctx Try.prog plLa []
theorem XLa_ok : CtxOk XLa := ctx_ok mixed puLa fns_nil
noncomputable def lb_rk : Code := (loopsOf (bodyOf Try.f67)).getD 0 .skip
def L_rk : Lay := { keys := [0, 1, 4, 6, 7, 8], ks := [.d (.sl cSc), .d cI, .p 0 0 0 0, .p 1 0 0 0, .d .b, .d cI], bs := [(0, 62, kSc), (1, 62, kSc)], n := 41, nx := 1000, marks := [] }
def R_rk : Lay := { keys := [4, 6, 7], ks := [.p 0 0 0 0, .p 1 0 0 0, .d .b], bs := [(0, 62, kSc), (1, 62, kSc)], n := 41, nx := 1000, marks := [] }
def E_rk : XE → Lay := fun _ => R_rk
abbrev cRk := L_rk.T ⊕ Left' E_rk
end Ev
end V
end Go.Proofs.Ytgchccljmjmibaa
