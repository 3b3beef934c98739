/- The law TopStraightOn. -/
import Derived.Test.YtialgmhhkbdegaaGreatYf
namespace Go.Proofs.YtialgmhhkbdegaaGreat
open Go.RowKit
namespace V
/-- a scene, and a place, without other balls -/
def sAl (a h : Int) : TCT cSc := (a, h, [], [], ())
def pAl (a h : Int) : TCT cP := (a, h, 0, (0, 0, ()), (false, false, ()), ())
theorem place_al (a h : Int) : placeF (sAl a h) = pAl a h := rfl
def hpA (b : TCT cB) (h : Int) : Int := getA (b.2.2.1 : List Int) (Int.toNat h) (dflt cI)
theorem after_al (b : TCT cB) (a h : Int) : afterF b (pAl a h) runA = pAl (hpA b h) (W64 (h + 1)) := by
  have e : (runA.1 == 1) = true := rfl
  have e2 : (runA.1 != 1) = false := rfl
  unfold afterF
  rw [e, e2]
  rfl
theorem acts_al {b : TCT cB} {a h : Int} (hh : h < bN b) : actsF b (pAl a h) = [runA] := by
  unfold actsF
  have e : ((pAl a h).2.1 == ((b.2.2.1 : List Int).length : Int)) = false := by
    show (h == bN b) = false
    simp only [beq_eq_false_iff_ne, ne_eq]; omega
  rw [e]
  rfl
theorem acts_end {b : TCT cB} {a h : Int} (hh : h = bN b) : actsF b (pAl a h) = [] := by
  unfold actsF
  have e : ((pAl a h).2.1 == ((b.2.2.1 : List Int).length : Int)) = true := by
    show (h == bN b) = true
    simp only [beq_iff_eq]; exact hh
  rw [e]
  rfl
/-- what is known of the alone scene -/
structure Al (b : TCT cB) (a h : Int) : Prop where
  bo : bOk b = true
  p : placeOk b (sAl a h) = true
theorem Al.okB {b : TCT cB} {a h : Int} (k : Al b a h) : OkB b := okB_of k.bo
theorem Al.okP {b : TCT cB} {a h : Int} (k : Al b a h) : OkP b (pAl a h) := place_okP k.p
theorem Al.hb {b : TCT cB} {a h : Int} (k : Al b a h) : 0 ≤ h ∧ h ≤ bN b := k.okP.h
theorem Al.legal {b : TCT cB} {a h : Int} (k : Al b a h) (hh : h < bN b) : Legal b (pAl a h) runA := ⟨hh, .inl rfl⟩
theorem Al.n {b : TCT cB} {a h : Int} (k : Al b a h) : bN b ≤ 6 := k.okB.n.2
theorem Al.w {b : TCT cB} {a h : Int} (k : Al b a h) : W64 (h + 1) = h + 1 := by
  have := k.hb
  have := k.n
  exact W64_id (by omega) (by omega)
theorem Al.nxt {b : TCT cB} {a h : Int} (k : Al b a h) (hh : h < bN b) : Al b (hpA b h) (h + 1) := by
  refine ⟨k.bo, ?_⟩
  have h1 := k.hb
  have hlt : Int.toNat h < (b.2.2.1 : List Int).length := by
    have : bN b = ((b.2.2.1 : List Int).length : Int) := rfl
    omega
  have h2 := k.okB.hs _ (getA_mem hlt (dflt cI))
  unfold placeOk cellOk
  have e1 : (decide (0 ≤ (sAl (hpA b h) (h + 1)).1 ∧ (sAl (hpA b h) (h + 1)).1 < cellsF b)) = true := decide_eq_true h2
  have e2 : (decide (0 ≤ (sAl (hpA b h) (h + 1)).2.1 ∧ (sAl (hpA b h) (h + 1)).2.1 ≤ ((b.2.2.1 : List Int).length : Int))) = true := by
    refine decide_eq_true ?_
    show 0 ≤ h + 1 ∧ h + 1 ≤ bN b
    omega
  rw [e1, e2]
  rfl
/-- the chance of the next run -/
def cRn (b : TCT cB) (a h : Int) : TCT cC := chF b (pAl a h) runA
theorem Al.ch {b : TCT cB} {a h : Int} (k : Al b a h) (hh : h < bN b) : chanceO b (pAl a h) runA = some (cRn b a h) ∧ validC (un (cRn b a h)) = true := by
  obtain ⟨_, _, _, c, hc, hv⟩ := legal_step k.okB k.okP (k.legal hh)
  have e : cRn b a h = c := by
    unfold cRn chF
    rw [hc]; rfl
  rw [e]
  exact ⟨hc, hv⟩
theorem Al.pick {b : TCT cB} {a h : Int} (k : Al b a h) (hh : h < bN b) : pickO b.2.2.2.1 (awayF b a (hpA b h)) = some (cRn b a h) := by
  have h1 := (k.ch hh).1
  unfold chanceO at h1
  cases hw : b.1 != 0 with
  | false => rw [hw] at h1; cases h1
  | true =>
    rw [hw, cond_true] at h1
    cases hr : runOk b (pAl a h) with
    | false => rw [hr] at h1; cases h1
    | true => rw [hr] at h1; exact h1
/-- the values along the way -/
def VS (b : TCT cB) : Nat → Int → Int → Ch
  | 0, _, _ => (0, 0)
  | k + 1, a, h => timesF (un (cRn b a h)) (VS b k (hpA b h) (h + 1)) 1000000
theorem up_nn {n : Int} (h : 0 ≤ n) : 0 ≤ up n := Int.ediv_nonneg (by omega) (by omega)
theorem dn_nn {n : Int} (h : 0 ≤ n) : 0 ≤ dn n := Int.ediv_nonneg h (by omega)
theorem VS_nn {b : TCT cB} : ∀ (k : Nat) (a h : Int), Al b a h → bN b - h = k → 0 ≤ (VS b k a h).1 ∧ 0 ≤ (VS b k a h).2
  | 0, _, _, _, _ => ⟨Int.le_refl _, Int.le_refl _⟩
  | k + 1, a, h, hA, hk => by
    have hh : h < bN b := by omega
    have i := VS_nn k _ _ (hA.nxt hh) (by omega)
    have v := of_decide_eq_true (hA.ch hh).2
    show 0 ≤ dn ((un (cRn b a h)).1 * ((VS b k (hpA b h) (h + 1)).1 + 1000000)) ∧ 0 ≤ up ((un (cRn b a h)).2 * ((VS b k (hpA b h) (h + 1)).2 + 1000000))
    exact ⟨dn_nn (Int.mul_nonneg v.1 (by omega)), up_nn (Int.mul_nonneg (by omega) (by omega))⟩
theorem Vf_al {b : TCT cB} : ∀ (k n : Nat) (a h : Int), Al b a h → bN b - h = k → k < n → un (Vf n b (pAl a h)) = VS b k a h
  | _, 0, _, _, _, _, hn => absurd hn (Nat.not_lt_zero _)
  | 0, n + 1, a, h, hA, hk, _ => by
    show un (bestF (Vf n b) b (pAl a h) (actsF b (pAl a h)) zC) = _
    rw [acts_end (by omega)]
    rfl
  | k + 1, n + 1, a, h, hA, hk, hn => by
    have hh : h < bN b := by omega
    have i := Vf_al k n _ _ (hA.nxt hh) (by omega) (by omega)
    have nn := VS_nn (k + 1) a h hA hk
    show un (bestF (Vf n b) b (pAl a h) (actsF b (pAl a h)) zC) = _
    rw [acts_al hh]
    show un (maxC zC (wF (Vf n b) b (pAl a h) runA)) = _
    have e : un (wF (Vf n b) b (pAl a h) runA) = VS b (k + 1) a h := by
      unfold wF
      rw [un_mk, after_al, hA.w, i]
      rfl
    have e1 : un (maxC zC (wF (Vf n b) b (pAl a h) runA)) = (max 0 (un (wF (Vf n b) b (pAl a h) runA)).1, max 0 (un (wF (Vf n b) b (pAl a h) runA)).2) := rfl
    rw [e1, e, Int.max_eq_right nn.1, Int.max_eq_right nn.2]
theorem best_al {b : TCT cB} {a h : Int} (hh : h < bN b) : (bestW b (pAl a h)).1 = runA ∧ (bestW b (pAl a h)).2.1 = true := by
  rcases best_facts (b := b) (p := pAl a h) with ⟨h1, _⟩ | ⟨h1, h2, _, _⟩
  · rw [acts_al hh] at h1; cases h1
  · rw [acts_al hh, List.mem_singleton] at h2
    exact ⟨h2, h1⟩
theorem plan_al {b : TCT cB} : ∀ (k n : Nat) (a h : Int), Al b a h → bN b - h = k → k < n → planF b n (pAl a h) = List.replicate k runA
  | _, 0, _, _, _, _, hn => absurd hn (Nat.not_lt_zero _)
  | 0, n + 1, a, h, hA, hk, _ => by
    unfold planF
    have : bestW b (pAl a h) = (zA, false, 0) := by
      unfold bestW
      rw [acts_end (by omega)]; rfl
    rw [this]; rfl
  | k + 1, n + 1, a, h, hA, hk, hn => by
    have hh : h < bN b := by omega
    unfold planF
    rw [(best_al hh).2, (best_al hh).1, after_al, hA.w, plan_al k n _ _ (hA.nxt hh) (by omega) (by omega)]
    rfl
/-- the loop: what the bounds come to -/
def lpS (b : TCT cB) : Nat → Int → Int → List (TCT cC) → Int → Int → Int × Int
  | 0, _, _, _, lo, hi => (lo, hi)
  | k + 1, a, h, l, lo, hi => lpS b k (hpA b h) (h + 1) (l ++ [cRn b a h]) (W64 (lo + (aF (l ++ [cRn b a h])).1)) (W64 (hi + (aF (l ++ [cRn b a h])).2))
theorem iter_al {b : TCT cB} {v : SKTs [.d cI, .d cI]} {N : Nat} : ∀ (k i : Nat) (n : Nat) (a h : Int) (l : List (TCT cC)) (lo hi : Int), Al b a h → bN b - h = k → i + k = N → k < n → N ≤ 6 → l.length = i → validL l = true →
    iter st_so n (hd_so (cB1 b) v (List.replicate N runA) lo hi l (i : Int) (sAl a h)) = some (ex_so v (List.replicate N runA) (lpS b k a h l lo hi).1 (lpS b k a h l lo hi).2)
  | 0, i, n, a, h, l, lo, hi, hA, hk, hi', hn, hN, hl, hv => by
    cases n with
    | zero => omega
    | succ n =>
      refine iter_out ?_
      show (st_so' (cB1 b) v (List.replicate N runA) lo hi l (i : Int) (sAl a h)).run = _
      unfold st_so'
      rw [List.length_replicate, decide_eq_false (show ¬ (i : Int) < (N : Int) by omega)]
      rfl
  | k + 1, i, n, a, h, l, lo, hi, hA, hk, hi', hn, hN, hl, hv => by
    have hh : h < bN b := by omega
    have h0 := hA.hb
    cases n with
    | zero => omega
    | succ n =>
      have hA' := hA.nxt hh
      have pk := hA.pick hh
      have hvl : validL (l ++ [cRn b a h]) = true := by
        unfold validL at hv ⊢
        rw [List.all_append, hv]
        simp only [Bool.true_and, List.all_cons, List.all_nil, Bool.and_true]
        exact (hA.ch hh).2
      have hbr : brd' (cB1 b) = b := rfl
      have hap : ∀ c, c = cRn b a h → (ap_so (cB1 b) v (List.replicate N runA) lo hi l (i : Int) (sAl a h) c).run = some (.inl (hd_so (cB1 b) v (List.replicate N runA) (W64 (lo + (aF (l ++ [cRn b a h])).1)) (W64 (hi + (aF (l ++ [cRn b a h])).2)) (l ++ [cRn b a h]) ((i + 1 : Nat) : Int) (sAl (hpA b h) (h + 1)))) := by
        intro c hc
        subst hc
        unfold ap_so
        have e1 : appOk l [cRn b a h] 16 = true := by
          rw [appOk_eq]
          refine decide_eq_true ?_
          simp only [List.length_cons, List.length_nil]
          omega
        have e2 : checkF (l ++ [cRn b a h]) = 0 := by
          unfold checkF
          rw [hvl, decide_eq_false (show ¬ ((l ++ [cRn b a h]).length : Int) > 64 by simp only [List.length_append, List.length_cons, List.length_nil]; omega)]
          rfl
        have ei : aSo (List.replicate N runA) (i : Int) = runA := by
          unfold aSo
          rw [show Int.toNat (i : Int) = i by omega, getA_lt (show i < (List.replicate N runA).length by rw [List.length_replicate]; omega), List.getElem_replicate]
          rfl
        have e3 : worthE b (sAl a h) runA = 0 := by
          unfold worthE
          rw [hA.bo, hA.p, place_al]
          have : legalB b (pAl a h) runA = true := by
            unfold legalB
            rw [acts_al hh]; rfl
          rw [this]; rfl
        have e4 : afterV b (sAl a h) runA = sAl (hpA b h) (h + 1) := by
          unfold afterV
          rw [e3, place_al, after_al, hA.w]
          rfl
        rw [e1, e2, List.length_replicate, decide_eq_true (show 0 ≤ (i : Int) ∧ (i : Int) < (N : Int) by omega), ei, hbr, e3, e4, W64_id (n := (i : Int) + 1) (by omega) (by omega)]
        rfl
      have hd0 : distE b a (hpA b h) = 0 := by
        unfold distE cellOk
        have c1 : decide (0 ≤ a ∧ a < cellsF b) = true := decide_eq_true hA.okP.a
        have c2 : decide (0 ≤ hpA b h ∧ hpA b h < cellsF b) = true := decide_eq_true hA'.okP.a
        rw [hA.bo, c1, c2]; rfl
      have hdv : distV b a (hpA b h) = awayF b a (hpA b h) := by
        unfold distV
        rw [hd0]; rfl
      rw [iter_in (g' := hd_so (cB1 b) v (List.replicate N runA) (W64 (lo + (aF (l ++ [cRn b a h])).1)) (W64 (hi + (aF (l ++ [cRn b a h])).2)) (l ++ [cRn b a h]) ((i + 1 : Nat) : Int) (sAl (hpA b h) (h + 1)))]
      · rw [iter_al k (i + 1) n _ _ _ _ _ hA' (by omega) (by omega) (by omega) hN (by simp [hl]) hvl]
        rfl
      · show (st_so' (cB1 b) v (List.replicate N runA) lo hi l (i : Int) (sAl a h)).run = _
        unfold st_so'
        have ei : aSo (List.replicate N runA) (i : Int) = runA := by
          unfold aSo
          rw [show Int.toNat (i : Int) = i by omega, getA_lt (show i < (List.replicate N runA).length by rw [List.length_replicate]; omega), List.getElem_replicate]
          rfl
        have hx : (decide (0 ≤ (sAl a h).2.1 ∧ (sAl a h).2.1 < (((cB1 b).2.2.1 : List Int).length : Int))) = true := decide_eq_true (show 0 ≤ h ∧ h < bN b from ⟨h0.1, hh⟩)
        have hgd : getA ((cB1 b).2.2.1 : List Int) (Int.toNat (sAl a h).2.1) (dflt cI) = hpA b h := rfl
        have hs1 : (sAl a h).1 = a := rfl
        rw [List.length_replicate, decide_eq_true (show (i : Int) < (N : Int) by omega), decide_eq_true (show 0 ≤ (i : Int) ∧ (i : Int) < (N : Int) by omega), hx, hgd, hs1, hbr, hd0, hdv, ei]
        unfold pickO at pk
        generalize hd : awayF b a (hpA b h) = d at pk
        cases h1 : decide (d = 0) with
        | true =>
          rw [h1] at pk
          have : d = 0 := of_decide_eq_true h1
          subst this
          exact hap _ (Option.some.inj pk)
        | false =>
          rw [h1, cond_false] at pk
          cases h2 : decide (d = 1) with
          | true =>
            rw [h2] at pk
            have : d = 1 := of_decide_eq_true h2
            subst this
            exact hap _ (Option.some.inj pk)
          | false =>
            rw [h2, cond_false] at pk
            cases h3 : decide (d = 2) with
            | true =>
              rw [h3] at pk
              have : d = 2 := of_decide_eq_true h3
              subst this
              exact hap _ (Option.some.inj pk)
            | false => rw [h3] at pk; cases pk
end V
end Go.Proofs.YtialgmhhkbdegaaGreat
