/- The law TacticsBounds: plain facts. -/
import Derived.Test.YtialgmhhkbdegaaGreatHe
namespace Go.Proofs.YtialgmhhkbdegaaGreat
open Go.RowKit
namespace V
/-- a board whose chances lie between another's -/
structure InB (d b : TCT cB) : Prop where
  w : d.1 = b.1
  l : d.2.1 = b.2.1
  hs : d.2.2.1 = b.2.2.1
  run : In (un d.2.2.2.1.1) (un b.2.2.2.1.1) ∧ In (un d.2.2.2.1.2.1) (un b.2.2.2.1.2.1) ∧ In (un d.2.2.2.1.2.2.1) (un b.2.2.2.1.2.2.1)
  hit : In (un d.2.2.2.2.1.1) (un b.2.2.2.2.1.1) ∧ In (un d.2.2.2.2.1.2.1) (un b.2.2.2.2.1.2.1) ∧ In (un d.2.2.2.2.1.2.2.1) (un b.2.2.2.2.1.2.2.1)
theorem pick_in {s t : TCT c3} {n : Int} (h : In (un s.1) (un t.1) ∧ In (un s.2.1) (un t.2.1) ∧ In (un s.2.2.1) (un t.2.2.1)) {x y : TCT cC} (hx : pickO s n = some x) (hy : pickO t n = some y) : In (un x) (un y) := by
  unfold pickO at hx hy
  cases h0 : decide (n = 0) with
  | true => rw [h0] at hx hy; cases hx; cases hy; exact h.1
  | false =>
    rw [h0, cond_false] at hx hy
    cases h1 : decide (n = 1) with
    | true => rw [h1] at hx hy; cases hx; cases hy; exact h.2.1
    | false =>
      rw [h1, cond_false] at hx hy
      cases h2 : decide (n = 2) with
      | true => rw [h2] at hx hy; cases hx; cases hy; exact h.2.2
      | false => rw [h2] at hx; cases hx
theorem after_same {d b : TCT cB} (h : InB d b) (p : TCT cP) (a : TCT cA) : afterF d p a = afterF b p a := by
  unfold afterF hoopAt
  rw [h.hs]
theorem away_same {d b : TCT cB} (h : InB d b) (x y : Int) : awayF d x y = awayF b x y := by
  unfold awayF
  rw [h.w]
theorem acts_same {d b : TCT cB} (h : InB d b) (p : TCT cP) : actsF d p = actsF b p := by
  have hc : cellsF d = cellsF b := by unfold cellsF; rw [h.w, h.l]
  unfold actsF rowsA rowA roqs sq roq
  rw [h.hs, hc]
theorem chance_in {d b : TCT cB} (h : InB d b) {p : TCT cP} {a : TCT cA} {x y : TCT cC} (hx : chanceO d p a = some x) (hy : chanceO b p a = some y) : In (un x) (un y) := by
  unfold chanceO runOk hoopAt at hx hy
  simp only [away_same h] at hx
  rw [h.w, h.hs] at hx
  cases h0 : b.1 != 0 with
  | false => rw [h0] at hx; cases hx
  | true =>
    rw [h0, cond_true] at hx hy
    cases h1 : a.1 == 1 with
    | true =>
      rw [h1, cond_true] at hx hy
      cases h2 : decide (0 ≤ p.2.1 ∧ p.2.1 < ((b.2.2.1 : List Int).length : Int)) with
      | false => rw [h2] at hx; cases hx
      | true => rw [h2, cond_true] at hx hy; exact pick_in h.run hx hy
    | false =>
      rw [h1, cond_false] at hx hy
      cases h2 : decide (a.2.1 = 0) with
      | true => rw [h2, cond_true] at hx hy; exact pick_in h.hit hx hy
      | false =>
        rw [h2, cond_false] at hx hy
        cases h3 : decide (a.2.1 = 1) with
        | true => rw [h3, cond_true] at hx hy; exact pick_in h.hit hx hy
        | false => rw [h3] at hx; cases hx
theorem timesG_in {a b c d : Ch} {g : Int} (hg : 0 ≤ g) (ha : validC a = true) (hb : validC b = true) (hc : 0 ≤ c.1 ∧ 0 ≤ c.2) (hd : 0 ≤ d.1 ∧ 0 ≤ d.2) (h : In a b) (k : In c d) : In (timesF a c g) (timesF b d g) := by
  have ha := of_decide_eq_true ha
  have hb := of_decide_eq_true hb
  unfold In at *
  exact ⟨dn_mono (mul_le2 (by omega) h.1 (by omega) (by omega)), up_mono (mul_le2 (by omega) h.2 (by omega) (by omega))⟩
theorem max_in {v w v' w' : TCT cC} (h : In (un v) (un v')) (k : In (un w) (un w')) : In (un (maxC v w)) (un (maxC v' w')) := by
  have e1 : (un (maxC v w)) = (max (un v).1 (un w).1, max (un v).2 (un w).2) := rfl
  have e2 : (un (maxC v' w')) = (max (un v').1 (un w').1, max (un v').2 (un w').2) := rfl
  rw [e1, e2]
  unfold In at *
  simp only
  omega
theorem dims_same {d b : TCT cB} (h : InB d b) : cellsF d = cellsF b ∧ bN d = bN b := by
  unfold cellsF bN
  rw [h.w, h.l, h.hs]
  exact ⟨rfl, rfl⟩
theorem okP_same {d b : TCT cB} (h : InB d b) {p : TCT cP} (hp : OkP b p) : OkP d p := by
  obtain ⟨e1, e2⟩ := dims_same h
  exact ⟨by rw [e1]; exact hp.a, by rw [e2]; exact hp.h, hp.n, by rw [e1]; exact hp.c0, by rw [e1]; exact hp.c1⟩
theorem upto_nn {n : Int} {v : TCT cC} (h : Upto n v) : 0 ≤ (un v).1 ∧ 0 ≤ (un v).2 := by
  obtain ⟨h1, h2, _⟩ := h
  exact ⟨h1, Int.le_trans h1 h2⟩
theorem w_in {d b : TCT cB} (hd : OkB d) (hb : OkB b) (h : InB d b) {p : TCT cP} (hp : OkP b p) {a : TCT cA} (ha : Legal b p a) (ha' : Legal d p a) {W W' : TCT cP → TCT cC} (hW : ∀ p, OkP b p → Upto (room d p) (W p) ∧ Upto (room b p) (W' p) ∧ In (un (W p)) (un (W' p))) : In (un (wF W d p a)) (un (wF W' b p a)) := by
  obtain ⟨_, q, _, c, hc, hv⟩ := legal_step hb hp ha
  obtain ⟨_, _, _, c', hc', hv'⟩ := legal_step hd (okP_same h hp) ha'
  obtain ⟨g1, _, _⟩ := gain_legal hb hp ha
  unfold wF chF
  rw [hc, hc', after_same h]
  obtain ⟨u1, u2, u3⟩ := hW _ q
  exact timesG_in g1 hv' hv (upto_nn u1) (upto_nn u2) (chance_in h hc' hc) u3
theorem best_in {d b : TCT cB} (hd : OkB d) (hb : OkB b) (h : InB d b) {p : TCT cP} (hp : OkP b p) {W W' : TCT cP → TCT cC} (hW : ∀ p, OkP b p → Upto (room d p) (W p) ∧ Upto (room b p) (W' p) ∧ In (un (W p)) (un (W' p))) :
    ∀ (l : List (TCT cA)) (s s' : TCT cC), (∀ a ∈ l, Legal b p a ∧ Legal d p a) → In (un s) (un s') → In (un (bestF W d p l s)) (un (bestF W' b p l s'))
  | [], _, _, _, hs => hs
  | a :: l, s, s', hl, hs => best_in hd hb h hp hW l _ _ (fun x hx => hl x (List.mem_cons_of_mem _ hx)) (max_in hs (w_in hd hb h hp (hl a (List.mem_cons_self ..)).1 (hl a (List.mem_cons_self ..)).2 hW))
theorem Vf_in {d b : TCT cB} (hd : OkB d) (hb : OkB b) (h : InB d b) : ∀ (n : Nat) (p : TCT cP), OkP b p → In (un (Vf n d p)) (un (Vf n b p))
  | 0, _, _ => ⟨Int.le_refl _, Int.le_refl _⟩
  | n + 1, p, hp => by
    show In (un (bestF (Vf n d) d p (actsF d p) zC)) (un (bestF (Vf n b) b p (actsF b p) zC))
    rw [acts_same h]
    refine best_in hd hb h hp (fun q hq => ⟨Vf_upto hd n q (okP_same h hq), Vf_upto hb n q hq, Vf_in hd hb h n q hq⟩) _ _ _ (fun a ha => ⟨legal_of hb hp ha, legal_of hd (okP_same h hp) (by rw [acts_same h]; exact ha)⟩) ⟨Int.le_refl _, Int.le_refl _⟩
theorem Val_in {d b : TCT cB} (hd : OkB d) (hb : OkB b) (h : InB d b) {p : TCT cP} (hp : OkP b p) : In (un (Val d p)) (un (Val b p)) := Vf_in hd hb h 21 p hp
/-! certain boards -/
theorem in_low {c : TCT cC} (h : validC (un c) = true) : In (un (lowF c)) (un c) ∧ validC (un (lowF c)) = true := by
  have h : 0 ≤ (un c).1 ∧ (un c).1 ≤ (un c).2 ∧ (un c).2 ≤ 1000000 := of_decide_eq_true h
  have e : un (lowF c) = ((un c).1, (un c).1) := rfl
  unfold In validC
  rw [e]
  exact ⟨⟨Int.le_refl _, h.2.1⟩, decide_eq_true ⟨h.1, Int.le_refl _, by simp only; omega⟩⟩
theorem runs_parts {t : TCT c3} (h : runsOk t = true) : validC (un t.1) = true ∧ validC (un t.2.1) = true ∧ validC (un t.2.2.1) = true := by
  unfold runsOk at h
  simpa only [Bool.and_eq_true_iff] using h
theorem runs_of {t : TCT c3} (h : validC (un t.1) = true ∧ validC (un t.2.1) = true ∧ validC (un t.2.2.1) = true) : runsOk t = true := by
  unfold runsOk
  simpa only [Bool.and_eq_true_iff] using h
theorem bOk_parts {b d : TCT cB} (h : bOk b = true) (hw : d.1 = b.1) (hl : d.2.1 = b.2.1) (hh : d.2.2.1 = b.2.2.1) (hr : runsOk d.2.2.2.1 = true) (ht : runsOk d.2.2.2.2.1 = true) : bOk d = true := by
  have hc : cellsF d = cellsF b := by unfold cellsF; rw [hw, hl]
  have hk : cellOk d = cellOk b := by
    funext c
    unfold cellOk
    rw [hc]
  unfold bOk at h ⊢
  simp only [Bool.and_eq_true_iff] at h ⊢
  rw [hw, hl, hh, hk]
  exact ⟨h.1, h.2.1, hr, ht⟩
theorem bOk_runs {b : TCT cB} (h : bOk b = true) : runsOk b.2.2.2.1 = true ∧ runsOk b.2.2.2.2.1 = true := by
  unfold bOk at h
  simp only [Bool.and_eq_true_iff] at h
  exact h.2.2
theorem certain_in {b : TCT cB} (h : bOk b = true) : bOk (certainF b) = true ∧ InB (certainF b) b := by
  obtain ⟨h1, h2⟩ := bOk_runs h
  obtain ⟨a1, a2, a3⟩ := runs_parts h1
  obtain ⟨b1, b2, b3⟩ := runs_parts h2
  exact ⟨bOk_parts h rfl rfl rfl (runs_of ⟨(in_low a1).2, (in_low a2).2, (in_low a3).2⟩) (runs_of ⟨(in_low b1).2, (in_low b2).2, (in_low b3).2⟩), rfl, rfl, rfl, ⟨(in_low a1).1, (in_low a2).1, (in_low a3).1⟩, ⟨(in_low b1).1, (in_low b2).1, (in_low b3).1⟩⟩
theorem pick_low (t : TCT c3) (n : Int) : pickO (low3 t) n = (pickO t n).map lowF := by
  unfold pickO
  cases decide (n = 0) <;> cases decide (n = 1) <;> cases decide (n = 2) <;> rfl
theorem chance_low (b : TCT cB) (p : TCT cP) (a : TCT cA) : chanceO (certainF b) p a = (chanceO b p a).map lowF := by
  have e : chanceO (certainF b) p a = bif b.1 != 0 then bif a.1 == 1 then bif runOk b p then pickO (low3 b.2.2.2.1) (awayF b p.1 (hoopAt b p)) else none
    else bif decide (a.2.1 = 0) then pickO (low3 b.2.2.2.2.1) (awayF b p.1 p.2.2.2.1.1) else bif decide (a.2.1 = 1) then pickO (low3 b.2.2.2.2.1) (awayF b p.1 p.2.2.2.1.2.1) else none else none := rfl
  rw [e]
  simp only [pick_low]
  unfold chanceO
  cases b.1 != 0 <;> cases a.1 == 1 <;> cases runOk b p <;> cases decide (a.2.1 = 0) <;> cases decide (a.2.1 = 1) <;> rfl
theorem Vf_low {b : TCT cB} (h : bOk b = true) : ∀ (n : Nat) (p : TCT cP), OkP b p → vLo (Vf n (certainF b) p) = vLo (Vf n b p)
  | 0, _, _ => rfl
  | n + 1, p, hp => by
    have hb := okB_of h
    obtain ⟨_, hc2⟩ := certain_in h
    show vLo (bestF (Vf n (certainF b)) (certainF b) p (actsF (certainF b) p) zC) = vLo (bestF (Vf n b) b p (actsF b p) zC)
    rw [acts_same hc2]
    have key : ∀ (l : List (TCT cA)) (s s' : TCT cC), (∀ a ∈ l, Legal b p a) → vLo s = vLo s' → vLo (bestF (Vf n (certainF b)) (certainF b) p l s) = vLo (bestF (Vf n b) b p l s') := by
      intro l
      induction l with
      | nil => exact fun _ _ _ h => h
      | cons a l ih =>
        intro s s' hl hs
        have ha := hl a (List.mem_cons_self ..)
        refine ih _ _ (fun x hx => hl x (List.mem_cons_of_mem _ hx)) ?_
        obtain ⟨_, q, _, c, hc, _⟩ := legal_step hb hp ha
        have e1 : vLo (wF (Vf n (certainF b)) (certainF b) p a) = vLo (wF (Vf n b) b p a) := by
          unfold wF chF
          rw [chance_low, hc, after_same hc2]
          show dn ((un c).1 * (vLo (Vf n (certainF b) (afterF b p a)) + gainF a)) = dn ((un c).1 * (vLo (Vf n b (afterF b p a)) + gainF a))
          rw [Vf_low h n _ q]
        show max (vLo s) (vLo (wF (Vf n (certainF b)) (certainF b) p a)) = max (vLo s') (vLo (wF (Vf n b) b p a))
        rw [hs, e1]
    exact key _ _ _ (fun a ha => legal_of hb hp ha) rfl
/-- how many acts may follow -/
def dep (b : TCT cB) (p : TCT cP) : Int := if pH p < bN b then (bN b - pH p) * (pN p + 1) - pN p + alive p else 0
theorem alive_n {b : TCT cB} {p : TCT cP} (hp : OkP b p) : (alive p : Int) ≤ pN p := by
  have hn := hp.n
  have h0 := cnt1_le (0 < pN p ∧ pD p 0 = false)
  have h1 := cnt1_le (1 < pN p ∧ pD p 1 = false)
  unfold alive
  by_cases k0 : 0 < pN p
  · by_cases k1 : 1 < pN p
    · omega
    · rw [cnt1_neg (c := 1 < pN p ∧ _) (fun h => k1 h.1)]; omega
  · rw [cnt1_neg (c := 0 < pN p ∧ _) (fun h => k0 h.1), cnt1_neg (c := 1 < pN p ∧ _) (fun h => by omega)]; omega
theorem dep_nn {b : TCT cB} {p : TCT cP} (hp : OkP b p) : 0 ≤ dep b p := by
  have hn := hp.n
  unfold dep
  split
  · have h1 : 1 * (pN p + 1) ≤ (bN b - pH p) * (pN p + 1) := Int.mul_le_mul_of_nonneg_right (by omega) (by omega)
    omega
  · omega
theorem dep_le {b : TCT cB} {p : TCT cP} (hp : OkP b p) : dep b p ≤ (bN b - pH p) * (pN p + 1) := by
  have hn := hp.n
  have hh := hp.h
  have ha := alive_n hp
  unfold dep
  split
  · omega
  · exact Int.mul_nonneg (by omega) (by omega)
theorem dep_step {b : TCT cB} (hb : OkB b) {p : TCT cP} (hp : OkP b p) {a : TCT cA} (h : Legal b p a) : dep b (afterF b p a) + 1 ≤ dep b p := by
  have hn := hp.n
  have hlt := h.1
  rcases h.2 with rfl | ha
  · obtain ⟨_, q, _, e⟩ := after_run hb hp h.1
    have e3 : pN (afterF b p runA) = pN p := rfl
    have ha := alive_n q
    unfold dep
    rw [e, e3, if_pos hlt]
    rw [e3] at ha
    have k : (bN b - pH p) * (pN p + 1) = (bN b - (pH p + 1)) * (pN p + 1) + (pN p + 1) := by rw [show bN b - pH p = (bN b - (pH p + 1)) + 1 by omega, Int.add_mul, Int.one_mul]
    have k0 : 0 ≤ (bN b - (pH p + 1)) * (pN p + 1) := Int.mul_nonneg (by omega) (by omega)
    split
    · omega
    · omega
  · obtain ⟨_, q, m, e⟩ := after_roq hp ha
    have e3 : pN (afterF b p a) = pN p := rfl
    unfold mu at m
    rw [e] at m
    unfold dep
    rw [e, e3, if_pos hlt, if_pos hlt]
    omega
theorem width_step {x l h g D : Int} (hx : 0 ≤ x ∧ x ≤ 1000000) (hD : h - l ≤ D) (h0 : 0 ≤ D) : up (x * (h + g)) - dn (x * (l + g)) ≤ D + 1 := by
  have e : x * (h + g) = x * (l + g) + x * (h - l) := by rw [← Int.mul_add]; congr 1; omega
  have k1 : x * (h - l) ≤ x * D := Int.mul_le_mul_of_nonneg_left hD hx.1
  have k2 : x * D ≤ 1000000 * D := Int.mul_le_mul_of_nonneg_right hx.2 h0
  rw [e]
  generalize x * (l + g) = A
  generalize x * (h - l) = B at *
  unfold up dn
  omega
theorem Vf_width {b : TCT cB} (h : bOk b = true) : ∀ (n : Nat) (p : TCT cP), OkP b p → vHi (Vf n (certainF b) p) - vLo (Vf n (certainF b) p) ≤ dep b p
  | 0, p, hp => by
    have := dep_nn hp
    show (0 : Int) - 0 ≤ dep b p
    omega
  | n + 1, p, hp => by
    have hb := okB_of h
    obtain ⟨_, hc2⟩ := certain_in h
    show vHi (bestF (Vf n (certainF b)) (certainF b) p (actsF (certainF b) p) zC) - vLo (bestF (Vf n (certainF b)) (certainF b) p (actsF (certainF b) p) zC) ≤ dep b p
    rw [acts_same hc2]
    have key : ∀ (l : List (TCT cA)) (s : TCT cC), (∀ a ∈ l, Legal b p a) → vHi s - vLo s ≤ dep b p → vHi (bestF (Vf n (certainF b)) (certainF b) p l s) - vLo (bestF (Vf n (certainF b)) (certainF b) p l s) ≤ dep b p := by
      intro l
      induction l with
      | nil => exact fun _ _ h => h
      | cons a l ih =>
        intro s hl hs
        have ha := hl a (List.mem_cons_self ..)
        refine ih _ (fun x hx => hl x (List.mem_cons_of_mem _ hx)) ?_
        obtain ⟨_, q, _, c, hc, hv⟩ := legal_step hb hp ha
        have hv : 0 ≤ (un c).1 ∧ (un c).1 ≤ (un c).2 ∧ (un c).2 ≤ 1000000 := of_decide_eq_true hv
        have e1 : vHi (wF (Vf n (certainF b)) (certainF b) p a) - vLo (wF (Vf n (certainF b)) (certainF b) p a) ≤ dep b p := by
          unfold wF chF
          rw [chance_low, hc, after_same hc2]
          show up ((un c).1 * (vHi (Vf n (certainF b) (afterF b p a)) + gainF a)) - dn ((un c).1 * (vLo (Vf n (certainF b) (afterF b p a)) + gainF a)) ≤ dep b p
          have k1 := dep_step hb hp ha
          have k2 := width_step (x := (un c).1) (g := gainF a) (by omega) (Vf_width h n _ q) (dep_nn q)
          omega
        have e2 : vHi (maxC s (wF (Vf n (certainF b)) (certainF b) p a)) = max (vHi s) (vHi (wF (Vf n (certainF b)) (certainF b) p a)) := rfl
        have e3 : vLo (maxC s (wF (Vf n (certainF b)) (certainF b) p a)) = max (vLo s) (vLo (wF (Vf n (certainF b)) (certainF b) p a)) := rfl
        rw [e2, e3]
        omega
    exact key _ _ (fun a ha => legal_of hb hp ha) (dep_nn hp)
/-! narrower boards -/
theorem sc_ok {w p : Int} (hw : 0 ≤ w ∧ w ≤ 1000000) (hp : 0 ≤ p ∧ p ≤ 255) : 0 ≤ sc w p ∧ sc w p ≤ w := by
  have k0 : 0 ≤ w * p := Int.mul_nonneg hw.1 hp.1
  have k1 : w * p ≤ w * 255 := Int.mul_le_mul_of_nonneg_left hp.2 hw.1
  unfold sc
  rw [W64_id (n := p) (by omega) (by omega), W64_id (n := w * p) (by omega) (by omega), Int.tdiv_eq_ediv_of_nonneg k0, W64_id (by omega) (by omega)]
  omega
theorem cut_ok {c : TCT cC} (h : validC (un c) = true) {p q : Int} (hp : 0 ≤ p ∧ p ≤ 255) (hq : 0 ≤ q ∧ q ≤ 255) : In (un (cut c p q)) (un c) ∧ validC (un (cut c p q)) = true := by
  have h : 0 ≤ (un c).1 ∧ (un c).1 ≤ (un c).2 ∧ (un c).2 ≤ 1000000 := of_decide_eq_true h
  have e : un (cut c p q) = (W64 ((un c).1 + min (sc (W64 ((un c).2 - (un c).1)) p) (sc (W64 ((un c).2 - (un c).1)) q)), W64 ((un c).1 + max (sc (W64 ((un c).2 - (un c).1)) p) (sc (W64 ((un c).2 - (un c).1)) q))) := rfl
  unfold In validC
  rw [e, W64_id (n := (un c).2 - (un c).1) (by omega) (by omega)]
  have s1 := sc_ok (w := (un c).2 - (un c).1) (by omega) hp
  have s2 := sc_ok (w := (un c).2 - (un c).1) (by omega) hq
  generalize sc ((un c).2 - (un c).1) p = x at *
  generalize sc ((un c).2 - (un c).1) q = y at *
  generalize (un c).1 = lo at *
  generalize (un c).2 = hi at *
  rw [W64_id (n := lo + min x y) (by omega) (by omega), W64_id (n := lo + max x y) (by omega) (by omega)]
  refine ⟨⟨?_, ?_⟩, decide_eq_true ?_⟩ <;> simp only <;> omega
def Parts (q : List Int) : Prop := ∀ x ∈ q, 0 ≤ x ∧ x ≤ 255
theorem parts_get {q : List Int} (h : Parts q) : ∀ (i : Nat), 0 ≤ getA q i (0 : Int) ∧ getA q i (0 : Int) ≤ 255 := by
  intro i
  by_cases hi : i < q.length
  · rw [getA_lt hi]; exact h _ (List.getElem_mem hi)
  · have : ∀ (l : List Int) (i : Nat), l.length ≤ i → getA l i (0 : Int) = 0 := by
      intro l
      induction l with
      | nil => intro i _; cases i <;> rfl
      | cons x l ih =>
        intro i hi
        cases i with
        | zero => simp at hi
        | succ i => exact ih i (by simpa using hi)
    rw [this q i (by omega)]
    omega
theorem inside_ok {c : TCT cC} (h : validC (un c) = true) {q : List Int} (hq : Parts q) (a : Int) : In (un (insideF c q a)) (un c) ∧ validC (un (insideF c q a)) = true := by
  unfold insideF
  cases decide (a + 1 ≥ (q.length : Int)) with
  | true => exact ⟨⟨Int.le_refl _, Int.le_refl _⟩, h⟩
  | false => exact cut_ok h (parts_get hq _) (parts_get hq _)
theorem narrow_in {b : TCT cB} (h : bOk b = true) {q : List Int} (hq : Parts q) : bOk (narrowF b q) = true ∧ InB (narrowF b q) b := by
  obtain ⟨h1, h2⟩ := bOk_runs h
  obtain ⟨a1, a2, a3⟩ := runs_parts h1
  obtain ⟨b1, b2, b3⟩ := runs_parts h2
  exact ⟨bOk_parts h rfl rfl rfl (runs_of ⟨(inside_ok a1 hq _).2, (inside_ok a2 hq _).2, (inside_ok a3 hq _).2⟩) (runs_of ⟨(inside_ok b1 hq _).2, (inside_ok b2 hq _).2, (inside_ok b3 hq _).2⟩), rfl, rfl, rfl, ⟨(inside_ok a1 hq _).1, (inside_ok a2 hq _).1, (inside_ok a3 hq _).1⟩, ⟨(inside_ok b1 hq _).1, (inside_ok b2 hq _).1, (inside_ok b3 hq _).1⟩⟩
/-! the law -/
def T_bd2 (v w c : Ch) (left long : Int) : Tree Unit :=
  bif !(decide (v.1 ≤ w.1) && decide (w.2 ≤ v.2)) then .fail else
  bif !(decide (v.1 ≤ c.1) && decide (c.2 ≤ v.2)) then .fail else
  bif c.1 != v.1 then .fail else bif decide (v.1 > v.2) then .fail else bif decide (v.1 < 0) then .fail else
  bif decide (v.2 > W64 (W64 left * 1000000)) then .fail else
  bif decide (W64 (c.2 - c.1) ≤ W64 (2 * W64 (W64 left * W64 long))) then .leaf () else .fail
def T_bd (b : TCT cB) (x : TCT cSc) (q : List Int) : Tree Unit := bif greatF b then .leaf () else bif wideF x then .leaf () else bif sceneE b x != 0 then .leaf () else bif sceneE b x != 0 then .fail else
  bif sceneE (narrowF b q) x != 0 then .fail else bif sceneE (certainF b) x != 0 then .fail else
  T_bd2 (un (valF b x)) (un (valF (narrowF b q) x)) (un (valF (certainF b) x)) ((b.2.2.1.length : Int) - x.2.1) ((x.2.2.1.length : Int) + 1)
theorem scene0 {b : TCT cB} {x : TCT cSc} (h : sceneE b x = 0) : bOk b = true ∧ placeOk b x = true := by
  unfold sceneE at h
  cases hb : bOk b with
  | false => rw [hb] at h; cases h
  | true =>
    cases hp : placeOk b x with
    | false => rw [hb, hp] at h; cases h
    | true => exact ⟨rfl, rfl⟩
theorem place_same {d b : TCT cB} (h : InB d b) (x : TCT cSc) : placeOk d x = placeOk b x := by
  have hk : cellOk d = cellOk b := by
    funext c
    unfold cellOk
    rw [(dims_same h).1]
  unfold placeOk
  rw [hk, h.hs]
theorem scene_same {d b : TCT cB} (h : InB d b) (hd : bOk d = true) {x : TCT cSc} (hp : placeOk b x = true) : sceneE d x = 0 ∧ valF d x = Val d (placeF x) := by
  unfold sceneE valF
  rw [hd, place_same h, hp]
  exact ⟨rfl, rfl⟩
theorem T_bd2_ok {v w c : Ch} {left long : Int} (h1 : In w v) (h2 : In c v) (h3 : c.1 = v.1) (h4 : v.1 ≤ v.2 ∧ 0 ≤ v.1) (h5 : v.2 ≤ 1000000 * left) (h6 : c.2 - c.1 ≤ left * long) (h7 : 0 ≤ left ∧ left ≤ 6) (h8 : 1 ≤ long ∧ long ≤ 3) (h9 : c.1 ≤ c.2) : (T_bd2 v w c left long).sat (fun _ => True) := by
  unfold T_bd2
  unfold In at h1 h2
  have k : left * long ≤ 6 * 3 := mul_le2 h7.1 h7.2 (by omega) h8.2
  have k0 : 0 ≤ left * long := Int.mul_nonneg h7.1 (by omega)
  rw [W64_id (n := left) (by omega) (by omega), W64_id (n := long) (by omega) (by omega), W64_id (n := left * 1000000) (by omega) (by omega), W64_id (n := left * long) (by omega) (by omega), W64_id (n := 2 * (left * long)) (by omega) (by omega), W64_id (n := c.2 - c.1) (by omega) (by omega),
    decide_eq_true h1.1, decide_eq_true h1.2, decide_eq_true h2.1, decide_eq_true h2.2, show (c.1 != v.1) = false by simpa using h3, decide_eq_false (show ¬ v.1 > v.2 by omega), decide_eq_false (show ¬ v.1 < 0 by omega), decide_eq_false (show ¬ v.2 > left * 1000000 by omega), decide_eq_true (show c.2 - c.1 ≤ 2 * (left * long) by omega)]
  trivial
theorem T_bd_ok (b : TCT cB) (x : TCT cSc) (q : List Int) (hq : Parts q) : (T_bd b x q).sat (fun _ => True) := by
  unfold T_bd
  refine sat_cond (fun _ => trivial) fun _ => sat_cond (fun _ => trivial) fun _ => sat_cond (fun _ => trivial) fun h => ?_
  have h0 : sceneE b x = 0 := by simpa using h
  obtain ⟨hb, hp⟩ := scene0 h0
  obtain ⟨n1, n2⟩ := narrow_in hb hq
  obtain ⟨c1, c2⟩ := certain_in hb
  obtain ⟨e1, e2⟩ := scene_same n2 n1 hp
  obtain ⟨e3, e4⟩ := scene_same c2 c1 hp
  have e5 : valF b x = Val b (placeF x) := by unfold valF; rw [hb, hp]; rfl
  rw [h, e1, e3, e2, e4, e5]
  have hB := okB_of hb
  have hP := place_okP hp
  have hu := Val_upto hB hP
  have hc := Val_upto (okB_of c1) (okP_same c2 hP)
  have hw : vHi (Val (certainF b) (placeF x)) - vLo (Val (certainF b) (placeF x)) ≤ dep b (placeF x) := Vf_width hb 21 _ hP
  have hl : vLo (Val (certainF b) (placeF x)) = vLo (Val b (placeF x)) := Vf_low hb 21 _ hP
  have hd := dep_le hP
  have hh := hP.h
  have hn := hP.n
  have hbn := hB.n
  have f1 : ((b.2.2.1.length : Int) - x.2.1 : Int) = bN b - pH (placeF x) := rfl
  have f2 : ((x.2.2.1.length : Int) + 1 : Int) = pN (placeF x) + 1 := rfl
  rw [f1, f2]
  refine T_bd2_ok (Val_in (okB_of n1) hB n2 hP) (Val_in (okB_of c1) hB c2 hP) hl ⟨hu.2.1, hu.1⟩ hu.2.2 (Int.le_trans hw hd) ⟨by omega, by omega⟩ ⟨by omega, by omega⟩ hc.2.1
def TY_bd (y : TCTs cs_tacticsBounds) : Tree Unit := T_bd y.1 y.2.1 y.2.2.1
end V
end Go.Proofs.YtialgmhhkbdegaaGreat
