/- The law EventOrder: the sheets in another order; the sheets that count hang on the set of sheets alone. -/
import Derived.Test.YtgchccljmjmibaaEm
namespace Go.Proofs.Ytgchccljmjmibaa
open Go.RowKit
namespace V
namespace Ev
theorem is_ltu : FnIs Try.prog (44, Try.f44) := ⟨Try.func44, by kernel_rfl, by kernel_rfl⟩
noncomputable def XTu : Ctx := ctx Try.prog [] []
theorem XTu_ok : CtxOk XTu := ctx_ok mixed puOk_nil fns_nil
abbrev nTu : Nat := 44
noncomputable def lb_tu : Code := (loopsOf (bodyOf Try.f44)).getD 0 .skip
abbrev cU8 : TC := .i .u8
def L_tu : Lay := { keys := [0, 1, 2, 7, 8], ks := [.d (.sl cSc), .d cU8, .d cU8, .o 62 cSc, .d cI], bs := [(0, 62, kSc)], n := 42, nx := 1000, marks := [] }
def R_tu : Lay := { keys := [7], ks := [.o 62 cSc], bs := [(0, 62, kSc)], n := 42, nx := 1000, marks := [] }
def E_tu : XE → Lay := fun _ => R_tu
abbrev cTu := L_tu.T ⊕ Left' E_tu
def hd_tu (z : SKTs kSc) (l : List (TCT cSc)) (b t : Int) (o : List (TCT cSc)) (i : Int) : L_tu.T := ((l, b, t, o, i, ()), (z, ()))
def ex_tu (z : SKTs kSc) (o : List (TCT cSc)) : Left' E_tu := ⟨.exit 0, ((o, ()), (z, ()))⟩
def bd_tu (z : SKTs kSc) (l : List (TCT cSc)) (b t : Int) (o : List (TCT cSc)) (i : Int) (s : TCT cSc) : Tree cTu :=
  bif appOk o [eS s] 32 then (bif Int.tmod i 3 == Int.tmod (W64 t) 3 then (bif appOk (o ++ [eS s]) [eS s] 32 then .leaf (.inl (hd_tu z l b t (o ++ [eS s] ++ [eS s]) (W64 (i - 1)))) else .fail) else .leaf (.inl (hd_tu z l b t (o ++ [eS s]) (W64 (i - 1))))) else .fail
def sm_tu (z : SKTs kSc) (l : List (TCT cSc)) (b t : Int) (o : List (TCT cSc)) (i : Int) : Tree cTu :=
  bif decide (i ≥ 0) then (bif (l.length : Int) != 0 then inN l.length (Int.tmod (W64 (i + W64 b)) l.length) (bd_tu z l b t o i (getA l (Int.toNat (Int.tmod (W64 (i + W64 b)) l.length)) (dflt cSc))) else .fail) else .leaf (.inr (ex_tu z o))
def st_tu (g : L_tu.T) : Tree cTu := sm_tu g.2.1 g.1.1 g.1.2.1 g.1.2.2.1 g.1.2.2.2.1 g.1.2.2.2.2.1
def fu_tu (g : L_tu.T) : Nat := (g.1.2.2.2.2.1 : Int).toNat + 2
theorem e_tu (g : L_tu.T) : evC Try.prog (evFn XTu 6) XTu.pures nTu XTu.u (fun _ => none) lb_tu (L_tu.of g) (stepOut L_tu E_tu) = st_tu g := by kernel_rfl
theorem l_tu : LoopOk Try.prog nTu lb_tu (loopSum L_tu E_tu (finX [.exit 0] st_tu fu_tu)) := loopOk_x0 XTu_ok 6 _ L_tu E_tu (fun _ => Nat.le_refl _) [.exit 0] _ fu_tu e_tu
/-! the order of sheets -/
theorem laB_iff (a b : TCT cSc) : laB a b = true ↔ (a.2.1 : Int) > b.2.1 ∨ (a.2.1 : Int) = b.2.1 ∧ ((a.2.2.1 : Int) > b.2.2.1 ∨ (a.2.2.1 : Int) = b.2.2.1 ∧ (a.2.2.2.1 : Int) > b.2.2.2.1) := by
  have key : ∀ x1 x2 x3 y1 y2 y3 : Int, (bif x1 != y1 then decide (x1 > y1) else bif x2 != y2 then decide (x2 > y2) else decide (x3 > y3)) = true ↔ x1 > y1 ∨ x1 = y1 ∧ (x2 > y2 ∨ x2 = y2 ∧ x3 > y3) := by
    intro x1 x2 x3 y1 y2 y3
    by_cases h1 : x1 = y1
    · subst h1
      rw [bne_self_eq_false, cond_false]
      by_cases h2 : x2 = y2
      · subst h2
        rw [bne_self_eq_false, cond_false, decide_eq_true_iff]
        omega
      · rw [show (x2 != y2) = true by simpa using h2, cond_true, decide_eq_true_iff]
        omega
    · rw [show (x1 != y1) = true by simpa using h1, cond_true, decide_eq_true_iff]
      omega
  exact key a.2.1 a.2.2.1 a.2.2.2.1 b.2.1 b.2.2.1 b.2.2.2.1
theorem laB_irr (a : TCT cSc) : laB a a = false := by
  rw [Bool.eq_false_iff]
  intro h
  rw [laB_iff] at h
  have key : ∀ x y z : Int, (x > x ∨ x = x ∧ (y > y ∨ y = y ∧ z > z)) → False := by omega
  exact key _ _ _ h
theorem laB_trans (a b c : TCT cSc) (h1 : laB a b = true) (h2 : laB b c = true) : laB a c = true := by
  rw [laB_iff] at h1 h2 ⊢
  have key : ∀ a1 a2 a3 b1 b2 b3 c1 c2 c3 : Int, (a1 > b1 ∨ a1 = b1 ∧ (a2 > b2 ∨ a2 = b2 ∧ a3 > b3)) → (b1 > c1 ∨ b1 = c1 ∧ (b2 > c2 ∨ b2 = c2 ∧ b3 > c3)) → (a1 > c1 ∨ a1 = c1 ∧ (a2 > c2 ∨ a2 = c2 ∧ a3 > c3)) := by omega
  exact key _ _ _ _ _ _ _ _ _ h1 h2
theorem laB_tot (a b : TCT cSc) (hm : (a.1 : Int) = b.1) (h1 : laB a b = false) (h2 : laB b a = false) : a = b := by
  have n1 : ¬ _ := fun h => by rw [(laB_iff a b).2 h] at h1; cases h1
  have n2 : ¬ _ := fun h => by rw [(laB_iff b a).2 h] at h2; cases h2
  obtain ⟨a0, a1, a2, a3, _⟩ := a
  obtain ⟨b0, b1, b2, b3, _⟩ := b
  have key : ∀ a1 a2 a3 b1 b2 b3 : Int, ¬ (a1 > b1 ∨ a1 = b1 ∧ (a2 > b2 ∨ a2 = b2 ∧ a3 > b3)) → ¬ (b1 > a1 ∨ b1 = a1 ∧ (b2 > a2 ∨ b2 = a2 ∧ b3 > a3)) → a1 = b1 ∧ a2 = b2 ∧ a3 = b3 := by omega
  obtain ⟨e1, e2, e3⟩ := key _ _ _ _ _ _ n1 n2
  simp only at hm e1 e2 e3
  subst hm e1 e2 e3
  rfl
/-- the sheet that counts, among some sheets -/
def IsC (L : List (TCT cSc)) (m : cMp) : Prop := ∀ k : Int, match m k with
  | none => ∀ t ∈ L, (t.1 : Int) ≠ k
  | some s => s ∈ L ∧ (s.1 : Int) = k ∧ ∀ t ∈ L, (t.1 : Int) = k → laB t s = false
theorem isC_step (L : List (TCT cSc)) (m : cMp) (x : TCT cSc) (h : IsC L m) : IsC (L ++ [x]) (cntS m x) := by
  intro k
  have hk := h k
  unfold cntS
  by_cases e : k = (x.1 : Int)
  · subst e
    cases hm : m x.1 with
    | none =>
      rw [hm] at hk
      simp only [Option.isSome_none, Bool.not_false, Bool.true_or, cond_true]
      rw [upd_same]
      refine ⟨by simp, rfl, fun t ht he => ?_⟩
      rcases List.mem_append.1 ht with h1 | h1
      · exact absurd he (hk t h1)
      · rw [List.mem_singleton.1 h1]; exact laB_irr x
    | some s =>
      rw [hm] at hk
      obtain ⟨k1, k2, k3⟩ := hk
      simp only [Option.isSome_some, Bool.not_true, Bool.false_or]
      rw [show or0 (some s) = s from rfl]
      cases hb : laB x s with
      | true =>
        rw [cond_true, upd_same]
        refine ⟨by simp, rfl, fun t ht he => ?_⟩
        rcases List.mem_append.1 ht with h1 | h1
        · rw [Bool.eq_false_iff]
          intro h2
          have := laB_trans t x s h2 hb
          rw [k3 t h1 he] at this
          cases this
        · rw [List.mem_singleton.1 h1]; exact laB_irr x
      | false =>
        rw [cond_false, hm]
        refine ⟨List.mem_append_left _ k1, k2, fun t ht he => ?_⟩
        rcases List.mem_append.1 ht with h1 | h1
        · exact k3 t h1 he
        · rw [List.mem_singleton.1 h1]; exact hb
  · have e2 : (bif !(m x.1).isSome || laB x (or0 (m x.1)) then upd m x.1 x else m) k = m k := by
      cases (!(m x.1).isSome || laB x (or0 (m x.1)))
      · rfl
      · exact upd_other m x e
    rw [e2]
    cases hm : m k with
    | none =>
      rw [hm] at hk
      intro t ht
      rcases List.mem_append.1 ht with h1 | h1
      · exact hk t h1
      · rw [List.mem_singleton.1 h1]; exact fun h => e h.symm
    | some s =>
      rw [hm] at hk
      refine ⟨List.mem_append_left _ hk.1, hk.2.1, fun t ht he => ?_⟩
      rcases List.mem_append.1 ht with h1 | h1
      · exact hk.2.2 t h1 he
      · rw [List.mem_singleton.1 h1] at he; exact absurd he.symm e
theorem isC_fold : ∀ (l L : List (TCT cSc)) (m : cMp), IsC L m → IsC (L ++ l) (l.foldl cntS m)
  | [], L, m, h => by rw [List.append_nil]; exact h
  | x :: l, L, m, h => by
    have := isC_fold l (L ++ [x]) (cntS m x) (isC_step L m x h)
    rw [List.append_assoc] at this
    exact this
theorem isC_cnt (l : List (TCT cSc)) : IsC l (cntM l) := by
  have := isC_fold l [] (fun _ => none) (fun k t ht => by cases ht)
  rwa [List.nil_append] at this
theorem isC_uniq {L L' : List (TCT cSc)} {m m' : cMp} (h : IsC L m) (h' : IsC L' m') (hs : ∀ t, t ∈ L ↔ t ∈ L') : m = m' := by
  funext k
  have a := h k
  have b := h' k
  cases hm : m k with
  | none =>
    rw [hm] at a
    cases hm' : m' k with
    | none => rfl
    | some s => rw [hm'] at b; exact absurd b.2.1 (a s ((hs s).2 b.1))
  | some s =>
    rw [hm] at a
    cases hm' : m' k with
    | none => rw [hm'] at b; exact absurd a.2.1 (b s ((hs s).1 a.1))
    | some t =>
      rw [hm'] at b
      rw [laB_tot s t (a.2.1.trans b.2.1.symm) (b.2.2 s ((hs s).1 a.1) a.2.1) (a.2.2 t ((hs t).2 b.1) b.2.1)]
/-- the same sheets, the same that count -/
theorem cnt_same {l m : List (TCT cSc)} (hs : ∀ t, t ∈ m ↔ t ∈ l) : cntM m = cntM l := isC_uniq (isC_cnt m) (isC_cnt l) hs
/-- a late sheet changes nothing -/
theorem cnt_late (m : List (TCT cSc)) (x s : TCT cSc) (h : cntM m x.1 = some s) (hv : laB x s = false) : cntM (m ++ [x]) = cntM m := by
  have e : cntM (m ++ [x]) = cntS (cntM m) x := by unfold cntM; rw [List.foldl_append]; rfl
  rw [e]
  unfold cntS
  rw [h, show or0 (some s) = s from rfl, hv]
  rfl
/-! the sheets turned -/
def tuS (l : List (TCT cSc)) (b t : Nat) (o : List (TCT cSc)) (i : Nat) : List (TCT cSc) := bif i % 3 == t % 3 then o ++ [getA l ((i + b) % l.length) (dflt cSc)] ++ [getA l ((i + b) % l.length) (dflt cSc)] else o ++ [getA l ((i + b) % l.length) (dflt cSc)]
def tuR (l : List (TCT cSc)) (b t : Nat) : Nat → List (TCT cSc) → List (TCT cSc)
  | 0, o => o
  | k + 1, o => tuR l b t k (tuS l b t o k)
theorem tuS_len (l : List (TCT cSc)) (b t : Nat) (o : List (TCT cSc)) (i : Nat) : (tuS l b t o i).length ≤ o.length + 2 := by
  unfold tuS
  cases i % 3 == t % 3 <;> simp
theorem tuR_len (l : List (TCT cSc)) (b t : Nat) : ∀ (k : Nat) (o : List (TCT cSc)), (tuR l b t k o).length ≤ o.length + 2 * k
  | 0, o => by simp [tuR]
  | k + 1, o => by
    have h1 := tuR_len l b t k (tuS l b t o k)
    have h2 := tuS_len l b t o k
    simp only [tuR]
    omega
theorem tuS_mem (l : List (TCT cSc)) (b t : Nat) (o : List (TCT cSc)) (i : Nat) (x : TCT cSc) : x ∈ tuS l b t o i ↔ x ∈ o ∨ x = getA l ((i + b) % l.length) (dflt cSc) := by
  unfold tuS
  cases i % 3 == t % 3 <;> simp
theorem tuR_mem (l : List (TCT cSc)) (b t : Nat) : ∀ (k : Nat) (o : List (TCT cSc)) (x : TCT cSc), x ∈ tuR l b t k o ↔ x ∈ o ∨ ∃ i, i < k ∧ x = getA l ((i + b) % l.length) (dflt cSc)
  | 0, o, x => by simp [tuR]
  | k + 1, o, x => by
    rw [tuR, tuR_mem l b t k, tuS_mem]
    constructor
    · rintro ((h | h) | ⟨i, hi, h⟩)
      · exact .inl h
      · exact .inr ⟨k, by omega, h⟩
      · exact .inr ⟨i, by omega, h⟩
    · rintro (h | ⟨i, hi, h⟩)
      · exact .inl (.inl h)
      · rcases Nat.lt_or_ge i k with h2 | h2
        · exact .inr ⟨i, h2, h⟩
        · have : i = k := by omega
          subst this
          exact .inl (.inr h)
theorem mod_onto (n b j : Nat) (hj : j < n) : ∃ i, i < n ∧ (i + b) % n = j := by
  have hb : b % n < n := Nat.mod_lt _ (by omega)
  refine ⟨(j + (n - b % n)) % n, Nat.mod_lt _ (by omega), ?_⟩
  rw [Nat.add_mod, Nat.mod_mod, ← Nat.add_mod]
  have e : j + (n - b % n) + b = j + n * (1 + b / n) := by
    have := Nat.div_add_mod b n
    rw [Nat.mul_add]
    omega
  rw [e, Nat.add_mul_mod_self_left, Nat.mod_eq_of_lt hj]
theorem tuR_same (l : List (TCT cSc)) (b t : Nat) (x : TCT cSc) : x ∈ tuR l b t l.length [] ↔ x ∈ l := by
  rw [tuR_mem]
  constructor
  · rintro (h | ⟨i, hi, rfl⟩)
    · cases h
    · have : (i + b) % l.length < l.length := Nat.mod_lt _ (by omega)
      rw [getA_lt this]
      exact List.getElem_mem this
  · intro h
    obtain ⟨j, hj, rfl⟩ := List.mem_iff_getElem.1 h
    obtain ⟨i, hi, e⟩ := mod_onto l.length b j hj
    refine .inr ⟨i, hi, ?_⟩
    rw [e, getA_lt hj]
theorem tu_run (z : SKTs kSc) (l : List (TCT cSc)) (b t : Nat) (hb : b ≤ 255) (ht : t ≤ 255) (hl : l.length ≤ 100) : ∀ (k : Nat) (o : List (TCT cSc)), k ≤ l.length → o.length + 2 * k ≤ 1000 → ∀ n, k < n → iter st_tu n (hd_tu z l b t o ((k : Int) - 1)) = some (ex_tu z (tuR l b t k o))
  | 0, o, _, _, n, hn => by
    obtain ⟨m, rfl⟩ : ∃ m, n = m + 1 := ⟨n - 1, by omega⟩
    refine iter_out ?_
    show (sm_tu z l b t o (((0 : Nat) : Int) - 1)).run = _
    unfold sm_tu
    rw [decide_eq_false (by omega)]
    rfl
  | k + 1, o, hk, ho, n, hn => by
    obtain ⟨m, rfl⟩ : ∃ m, n = m + 1 := ⟨n - 1, by omega⟩
    have hm := Nat.mod_lt (k + b) (show 0 < l.length by omega)
    have h2 := tuS_len l b t o k
    rw [iter_in (g' := hd_tu z l b t (tuS l b t o k) ((k : Int) - 1)) ?_, tu_run z l b t hb ht hl k _ (by omega) (by omega) m (by omega)]
    · rfl
    show (sm_tu z l b t o (((k + 1 : Nat) : Int) - 1)).run = _
    unfold sm_tu inN
    have e0 : ((k + 1 : Nat) : Int) - 1 = (k : Int) := by omega
    have e1 : Int.tmod (W64 ((k : Int) + W64 (b : Int))) (l.length : Int) = (((k + b) % l.length : Nat) : Int) := by
      rw [W64_id (n := (b : Int)) (by omega) (by omega), W64_id (n := (k : Int) + (b : Int)) (by omega) (by omega), Int.tmod_eq_emod_of_nonneg (by omega)]
      exact (Int.natCast_emod (k + b) l.length).symm
    rw [e0, e1, decide_eq_true (show (k : Int) ≥ 0 by omega), show ((l.length : Int) != 0) = true by rw [bne_iff_ne]; omega, decide_eq_true (show 0 ≤ (((k + b) % l.length : Nat) : Int) ∧ (((k + b) % l.length : Nat) : Int) < (l.length : Int) by omega), show Int.toNat (((k + b) % l.length : Nat) : Int) = (k + b) % l.length by omega]
    simp only [cond_true]
    unfold bd_tu
    rw [app_ok (by simp; omega) (by omega), app_ok (by simp; omega) (by omega), W64_id (n := (k : Int) - 1) (by omega) (by omega), W64_id (n := (t : Int)) (by omega) (by omega)]
    have e3 : (Int.tmod (k : Int) 3 == Int.tmod (t : Int) 3) = (k % 3 == t % 3) := by
      rw [Int.tmod_eq_emod_of_nonneg (by omega), Int.tmod_eq_emod_of_nonneg (by omega), Bool.eq_iff_iff, beq_iff_eq, beq_iff_eq]
      omega
    rw [e3]
    unfold tuS
    cases k % 3 == t % 3 <;> rfl
theorem chk_same {l m : List (TCT cSc)} (hs : ∀ t, t ∈ m ↔ t ∈ l) (hl : l.length ≤ 400) (hm : m.length ≤ 400) : chkV m = chkV l := by
  unfold chkV
  rw [decide_eq_false (show ¬ ((l.length : Int) > 400) by omega), decide_eq_false (show ¬ ((m.length : Int) > 400) by omega)]
  have : m.any badS = l.any badS := by
    rw [Bool.eq_iff_iff, List.any_eq_true, List.any_eq_true]
    exact ⟨fun ⟨x, h1, h2⟩ => ⟨x, (hs x).1 h1, h2⟩, fun ⟨x, h1, h2⟩ => ⟨x, (hs x).2 h1, h2⟩⟩
  rw [this]
end Ev
end V
end Go.Proofs.Ytgchccljmjmibaa
