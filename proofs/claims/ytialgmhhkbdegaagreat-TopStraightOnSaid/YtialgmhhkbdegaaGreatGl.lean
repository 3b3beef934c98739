/- The value of a place: what the walk computes is the value. -/
import Derived.Test.YtialgmhhkbdegaaGreatGk
namespace Go.Proofs.YtialgmhhkbdegaaGreat
open Go.RowKit
namespace V
def chF (b : TCT cB) (p : TCT cP) (a : TCT cA) : TCT cC := (chanceO b p a).getD zC
def wF (W : TCT cP → TCT cC) (b : TCT cB) (p : TCT cP) (a : TCT cA) : TCT cC := mk (timesF (un (chF b p a)) (un (W (afterF b p a))) (gainF a))
def bestF (W : TCT cP → TCT cC) (b : TCT cB) (p : TCT cP) (l : List (TCT cA)) (s : TCT cC) : TCT cC := l.foldl (fun s a => maxC s (wF W b p a)) s
def Vf : Nat → TCT cB → TCT cP → TCT cC
  | 0, _, _ => zC
  | n + 1, b, p => bestF (Vf n b) b p (actsF b p) zC
/-- the value of a place -/
def Val (b : TCT cB) (p : TCT cP) : TCT cC := Vf 21 b p
def vLo (v : TCT cC) : Int := v.1
def vHi (v : TCT cC) : Int := v.2.1
/-- bounds from 0 to a number -/
def Upto (n : Int) (v : TCT cC) : Prop := 0 ≤ vLo v ∧ vLo v ≤ vHi v ∧ vHi v ≤ n
theorem times_upto {c : TCT cC} (hc : validC (un c) = true) {v : TCT cC} {n g : Int} (hv : Upto n v) (hg : 0 ≤ g) : Upto (n + g) (mk (timesF (un c) (un v) g)) := by
  have hc : 0 ≤ (un c).1 ∧ (un c).1 ≤ (un c).2 ∧ (un c).2 ≤ 1000000 := of_decide_eq_true hc
  have e1 : vLo (mk (timesF (un c) (un v) g)) = dn ((un c).1 * (vLo v + g)) := rfl
  have e2 : vHi (mk (timesF (un c) (un v) g)) = up ((un c).2 * (vHi v + g)) := rfl
  obtain ⟨h1, h2, h3⟩ := hv
  unfold Upto
  rw [e1, e2]
  have k0 : 0 ≤ (un c).1 * (vLo v + g) := Int.mul_nonneg hc.1 (by omega)
  have k1 : (un c).1 * (vLo v + g) ≤ (un c).2 * (vHi v + g) := mul_le2 hc.1 hc.2.1 (by omega) (by omega)
  have k2 : (un c).2 * (vHi v + g) ≤ 1000000 * (vHi v + g) := mul_le2 (by omega) hc.2.2 (by omega) (Int.le_refl _)
  refine ⟨Int.ediv_nonneg k0 (by omega), Int.le_trans (dn_mono k1) (dn_up _), ?_⟩
  unfold up
  omega
theorem max_upto {n : Int} {v w : TCT cC} (hv : Upto n v) (hw : Upto n w) : Upto n (maxC v w) := by
  have e1 : vLo (maxC v w) = max (vLo v) (vLo w) := rfl
  have e2 : vHi (maxC v w) = max (vHi v) (vHi w) := rfl
  unfold Upto at *
  rw [e1, e2]
  omega
theorem zC_upto {n : Int} (h : 0 ≤ n) : Upto n zC := ⟨Int.le_refl _, Int.le_refl _, h⟩
def room (b : TCT cB) (p : TCT cP) : Int := 1000000 * (bN b - pH p)
theorem gain_legal {b : TCT cB} (hb : OkB b) {p : TCT cP} (hp : OkP b p) {a : TCT cA} (h : Legal b p a) : 0 ≤ gainF a ∧ gainF a ≤ 1000000 ∧ room b (afterF b p a) + gainF a = room b p := by
  unfold room gainF
  rcases h.2 with rfl | ha
  · obtain ⟨_, _, _, e⟩ := after_run hb hp h.1
    rw [e, show (runA.1 == 1) = true from rfl]
    refine ⟨by simp, by simp, ?_⟩
    simp only [cond_true]
    omega
  · obtain ⟨_, _, _, e⟩ := after_roq hp ha
    have hk1 : (a.1 == 1) = false := by
      show (aK a == 1) = false
      rw [ha.k]; rfl
    rw [e, hk1]
    refine ⟨by simp, by simp, ?_⟩
    simp only [cond_false]
    omega
theorem w_upto {W : TCT cP → TCT cC} {b : TCT cB} (hb : OkB b) {p : TCT cP} (hp : OkP b p) {a : TCT cA} (h : Legal b p a) (hW : Upto (room b (afterF b p a)) (W (afterF b p a))) : Upto (room b p) (wF W b p a) := by
  obtain ⟨_, _, _, c, hc, hv⟩ := legal_step hb hp h
  obtain ⟨g1, _, g2⟩ := gain_legal hb hp h
  unfold wF chF
  rw [hc, ← g2]
  exact times_upto hv hW g1
theorem best_upto {W : TCT cP → TCT cC} {b : TCT cB} (hb : OkB b) {p : TCT cP} (hp : OkP b p) (hW : ∀ a, Legal b p a → Upto (room b (afterF b p a)) (W (afterF b p a))) : ∀ (l : List (TCT cA)) (s : TCT cC), (∀ a ∈ l, Legal b p a) → Upto (room b p) s → Upto (room b p) (bestF W b p l s)
  | [], _, _, h => h
  | a :: l, s, hl, hs => best_upto hb hp hW l _ (fun x hx => hl x (List.mem_cons_of_mem _ hx)) (max_upto hs (w_upto hb hp (hl a (List.mem_cons_self ..)) (hW a (hl a (List.mem_cons_self ..)))))
theorem room_nn {b : TCT cB} {p : TCT cP} (hp : OkP b p) : 0 ≤ room b p := by
  have := hp.h
  unfold room
  omega
theorem Vf_upto {b : TCT cB} (hb : OkB b) : ∀ (n : Nat) (p : TCT cP), OkP b p → Upto (room b p) (Vf n b p)
  | 0, p, hp => zC_upto (room_nn hp)
  | n + 1, p, hp => best_upto hb hp (fun a ha => Vf_upto hb n _ (legal_step hb hp ha).2.1) _ _ (fun _ h => legal_of hb hp h) (zC_upto (room_nn hp))
theorem best_congr {W W' : TCT cP → TCT cC} {b : TCT cB} {p : TCT cP} : ∀ (l : List (TCT cA)) (s : TCT cC), (∀ a ∈ l, W (afterF b p a) = W' (afterF b p a)) → bestF W b p l s = bestF W' b p l s
  | [], _, _ => rfl
  | a :: l, s, h => by
    have e : wF W b p a = wF W' b p a := by unfold wF; rw [h a (List.mem_cons_self ..)]
    show bestF W b p l (maxC s (wF W b p a)) = bestF W' b p l (maxC s (wF W' b p a))
    rw [e]
    exact best_congr l _ fun x hx => h x (List.mem_cons_of_mem _ hx)
theorem Vf_same {b : TCT cB} (hb : OkB b) : ∀ (n m : Nat) (p : TCT cP), OkP b p → mu b p < n → mu b p < m → Vf n b p = Vf m b p
  | 0, _, _, _, h, _ => absurd h (Nat.not_lt_zero _)
  | _, 0, _, _, _, h => absurd h (Nat.not_lt_zero _)
  | n + 1, m + 1, p, hp, h1, h2 => best_congr _ _ fun a ha => by
    obtain ⟨_, q1, q2, _⟩ := legal_step hb hp (legal_of hb hp ha)
    exact Vf_same hb n m _ q1 (by omega) (by omega)
theorem Val_eq {b : TCT cB} (hb : OkB b) {p : TCT cP} (hp : OkP b p) : Val b p = bestF (Val b) b p (actsF b p) zC := best_congr _ _ fun a ha => by
  obtain ⟨_, q1, q2, _⟩ := legal_step hb hp (legal_of hb hp ha)
  have := mu_le hb hp
  exact Vf_same hb 20 21 _ q1 (by omega) (by omega)
theorem Val_upto {b : TCT cB} (hb : OkB b) {p : TCT cP} (hp : OkP b p) : Upto (room b p) (Val b p) := Vf_upto hb 21 p hp
/-- what a memo holds is right -/
def Right (b : TCT cB) (m : Memo) : Prop := ∀ k v, m k = some v → OkP b k ∧ v = Val b k
theorem right_put {b : TCT cB} {m : Memo} (h : Right b m) {p : TCT cP} (hp : OkP b p) : Right b (putM m p (Val b p)) := by
  intro k v hk
  unfold putM at hk
  cases he : beqD cP k p with
  | true =>
    rw [he] at hk
    have e : k = p := (beqD_iff cP k p rfl).1 he
    cases hk
    rw [e]
    exact ⟨hp, rfl⟩
  | false => rw [he] at hk; exact h k v hk
theorem wM_ok {V : VM} {b : TCT cB} (hb : OkB b) {p : TCT cP} (hp : OkP b p) {a : TCT cA} (ha : Legal b p a) {m m' : Memo} (hV : V b (afterF b p a) m = some (Val b (afterF b p a), m')) : wM V b p a m = some (wF (Val b) b p a, m') := by
  obtain ⟨h1, h2, h3, c, hc, hv⟩ := legal_step hb hp ha
  obtain ⟨g1, g2, g3⟩ := gain_legal hb hp ha
  unfold wM wF chF
  rw [h1, cond_true, hV, Option.bind_some, hc, Option.bind_some]
  unfold kO
  have hu := Val_upto hb h2
  have hr : room b (afterF b p a) ≤ 6000000 := by
    have := h2.h
    have := hb.n
    unfold room
    omega
  obtain ⟨u1, u2, u3⟩ := hu
  have hg : gainOk (un (Val b (afterF b p a))) (gainF a) = true := by
    have e1 : (un (Val b (afterF b p a))).1 = vLo (Val b (afterF b p a)) := rfl
    have e2 : (un (Val b (afterF b p a))).2 = vHi (Val b (afterF b p a)) := rfl
    unfold gainOk
    rw [e1, e2]
    exact decide_eq_true (by omega)
  rw [fit_valid hv, hg]
  rfl
theorem fold_ok {V : VM} {b : TCT cB} (hb : OkB b) {p : TCT cP} (hp : OkP b p) (hV : ∀ a m, Legal b p a → Right b m → ∃ m', V b (afterF b p a) m = some (Val b (afterF b p a), m') ∧ Right b m') :
    ∀ (l : List (TCT cA)) (s : TCT cC) (m : Memo), (∀ a ∈ l, Legal b p a) → Right b m → ∃ m', foldO (stepA V b p) (s, m) l = some (bestF (Val b) b p l s, m') ∧ Right b m'
  | [], s, m, _, h => ⟨m, rfl, h⟩
  | a :: l, s, m, hl, h => by
    have ha := hl a (List.mem_cons_self ..)
    obtain ⟨m1, e1, r1⟩ := hV a m ha h
    obtain ⟨m2, e2, r2⟩ := fold_ok hb hp hV l (maxC s (wF (Val b) b p a)) m1 (fun x hx => hl x (List.mem_cons_of_mem _ hx)) r1
    refine ⟨m2, ?_, r2⟩
    have e3 : stepA V b p (s, m) a = some (maxC s (wF (Val b) b p a), m1) := by
      unfold stepA
      show Option.map _ (wM V b p a m) = _
      rw [wM_ok hb hp ha e1]
      rfl
    simp only [foldO, e3, Option.bind_some]
    exact e2
theorem valN_ok {b : TCT cB} (hb : OkB b) : ∀ (n : Nat) (p : TCT cP) (m : Memo), OkP b p → mu b p < n → Right b m → ∃ m', valN n b p m = some (Val b p, m') ∧ Right b m'
  | 0, _, _, _, h, _ => absurd h (Nat.not_lt_zero _)
  | n + 1, p, m, hp, hn, hm => by
    show ∃ m', valS (valN n) b p m = some (Val b p, m') ∧ Right b m'
    unfold valS
    cases hk : m p with
    | some v =>
      obtain ⟨_, rfl⟩ := hm p v hk
      exact ⟨m, rfl, hm⟩
    | none =>
      obtain ⟨m', e, r⟩ := fold_ok (V := valN n) hb hp (fun a m ha hr => by
        obtain ⟨_, q1, q2, _⟩ := legal_step hb hp ha
        exact valN_ok hb n _ m q1 (by omega) hr) (actsF b p) zC m (fun a ha => legal_of hb hp ha) hm
      refine ⟨putM m' p (Val b p), ?_, right_put r hp⟩
      have hN : okN b p.2.2.1 0 = true := okN_ok hb hp.n.2
      simp only [hN, Bool.or_true, cond_true]
      rw [e, ← Val_eq hb hp]
      rfl
end V
end Go.Proofs.YtialgmhhkbdegaaGreat
