/- The value of a break grows with the chances of its board. -/
import Derived.Test.YtialgmhhkbdegaaGreatHf
namespace Go.Proofs.YtialgmhhkbdegaaGreat
open Go.RowKit
namespace V
namespace Mo
def Le2 (a b : Ch) : Prop := a.1 ≤ b.1 ∧ a.2 ≤ b.2
/-- a board whose chances are no greater than another's -/
structure LeB (d b : TCT cB) : Prop where
  w : d.1 = b.1
  l : d.2.1 = b.2.1
  hs : d.2.2.1 = b.2.2.1
  run : Le2 (un d.2.2.2.1.1) (un b.2.2.2.1.1) ∧ Le2 (un d.2.2.2.1.2.1) (un b.2.2.2.1.2.1) ∧ Le2 (un d.2.2.2.1.2.2.1) (un b.2.2.2.1.2.2.1)
  hit : Le2 (un d.2.2.2.2.1.1) (un b.2.2.2.2.1.1) ∧ Le2 (un d.2.2.2.2.1.2.1) (un b.2.2.2.2.1.2.1) ∧ Le2 (un d.2.2.2.2.1.2.2.1) (un b.2.2.2.2.1.2.2.1)
theorem pick_in {s t : TCT c3} {n : Int} (h : Le2 (un s.1) (un t.1) ∧ Le2 (un s.2.1) (un t.2.1) ∧ Le2 (un s.2.2.1) (un t.2.2.1)) {x y : TCT cC} (hx : pickO s n = some x) (hy : pickO t n = some y) : Le2 (un x) (un y) := by
  unfold pickO at hx hy
  cases h0 : decide (n = 0) with
  | true => rw [h0] at hx hy; cases hx; cases hy; exact h.1
  | false =>
    rw [h0, cond_false] at hx hy
    cases h1 : decide (n = 1) with
    | true => rw [h1] at hx hy; cases hx; cases hy; exact h.2.1
    | false =>
      rw [h1, cond_false] at hx hy
      cases h2 : decide (n = 2) with
      | true => rw [h2] at hx hy; cases hx; cases hy; exact h.2.2
      | false => rw [h2] at hx; cases hx
theorem after_same {d b : TCT cB} (h : LeB d b) (p : TCT cP) (a : TCT cA) : afterF d p a = afterF b p a := by
  unfold afterF hoopAt
  rw [h.hs]
theorem away_same {d b : TCT cB} (h : LeB d b) (x y : Int) : awayF d x y = awayF b x y := by
  unfold awayF
  rw [h.w]
theorem acts_same {d b : TCT cB} (h : LeB d b) (p : TCT cP) : actsF d p = actsF b p := by
  have hc : cellsF d = cellsF b := by unfold cellsF; rw [h.w, h.l]
  unfold actsF rowsA rowA roqs sq roq
  rw [h.hs, hc]
theorem chance_in {d b : TCT cB} (h : LeB d b) {p : TCT cP} {a : TCT cA} {x y : TCT cC} (hx : chanceO d p a = some x) (hy : chanceO b p a = some y) : Le2 (un x) (un y) := by
  unfold chanceO runOk hoopAt at hx hy
  simp only [away_same h] at hx
  rw [h.w, h.hs] at hx
  cases h0 : b.1 != 0 with
  | false => rw [h0] at hx; cases hx
  | true =>
    rw [h0, cond_true] at hx hy
    cases h1 : a.1 == 1 with
    | true =>
      rw [h1, cond_true] at hx hy
      cases h2 : decide (0 ≤ p.2.1 ∧ p.2.1 < ((b.2.2.1 : List Int).length : Int)) with
      | false => rw [h2] at hx; cases hx
      | true => rw [h2, cond_true] at hx hy; exact pick_in h.run hx hy
    | false =>
      rw [h1, cond_false] at hx hy
      cases h2 : decide (a.2.1 = 0) with
      | true => rw [h2, cond_true] at hx hy; exact pick_in h.hit hx hy
      | false =>
        rw [h2, cond_false] at hx hy
        cases h3 : decide (a.2.1 = 1) with
        | true => rw [h3, cond_true] at hx hy; exact pick_in h.hit hx hy
        | false => rw [h3] at hx; cases hx
theorem timesG_in {a b c d : Ch} {g : Int} (hg : 0 ≤ g) (ha : validC a = true) (hb : validC b = true) (hc : 0 ≤ c.1 ∧ 0 ≤ c.2) (hd : 0 ≤ d.1 ∧ 0 ≤ d.2) (h : Le2 a b) (k : Le2 c d) : Le2 (timesF a c g) (timesF b d g) := by
  have ha := of_decide_eq_true ha
  have hb := of_decide_eq_true hb
  unfold Le2 at *
  exact ⟨dn_mono (mul_le2 (by omega) h.1 (by omega) (by omega)), up_mono (mul_le2 (by omega) h.2 (by omega) (by omega))⟩
theorem max_in {v w v' w' : TCT cC} (h : Le2 (un v) (un v')) (k : Le2 (un w) (un w')) : Le2 (un (maxC v w)) (un (maxC v' w')) := by
  have e1 : (un (maxC v w)) = (max (un v).1 (un w).1, max (un v).2 (un w).2) := rfl
  have e2 : (un (maxC v' w')) = (max (un v').1 (un w').1, max (un v').2 (un w').2) := rfl
  rw [e1, e2]
  unfold Le2 at *
  simp only
  omega
theorem dims_same {d b : TCT cB} (h : LeB d b) : cellsF d = cellsF b ∧ bN d = bN b := by
  unfold cellsF bN
  rw [h.w, h.l, h.hs]
  exact ⟨rfl, rfl⟩
theorem okP_same {d b : TCT cB} (h : LeB d b) {p : TCT cP} (hp : OkP b p) : OkP d p := by
  obtain ⟨e1, e2⟩ := dims_same h
  exact ⟨by rw [e1]; exact hp.a, by rw [e2]; exact hp.h, hp.n, by rw [e1]; exact hp.c0, by rw [e1]; exact hp.c1⟩
theorem upto_nn {n : Int} {v : TCT cC} (h : Upto n v) : 0 ≤ (un v).1 ∧ 0 ≤ (un v).2 := by
  obtain ⟨h1, h2, _⟩ := h
  exact ⟨h1, Int.le_trans h1 h2⟩
theorem w_in {d b : TCT cB} (hd : OkB d) (hb : OkB b) (h : LeB d b) {p : TCT cP} (hp : OkP b p) {a : TCT cA} (ha : Legal b p a) (ha' : Legal d p a) {W W' : TCT cP → TCT cC} (hW : ∀ p, OkP b p → Upto (room d p) (W p) ∧ Upto (room b p) (W' p) ∧ Le2 (un (W p)) (un (W' p))) : Le2 (un (wF W d p a)) (un (wF W' b p a)) := by
  obtain ⟨_, q, _, c, hc, hv⟩ := legal_step hb hp ha
  obtain ⟨_, _, _, c', hc', hv'⟩ := legal_step hd (okP_same h hp) ha'
  obtain ⟨g1, _, _⟩ := gain_legal hb hp ha
  unfold wF chF
  rw [hc, hc', after_same h]
  obtain ⟨u1, u2, u3⟩ := hW _ q
  exact timesG_in g1 hv' hv (upto_nn u1) (upto_nn u2) (chance_in h hc' hc) u3
theorem best_in {d b : TCT cB} (hd : OkB d) (hb : OkB b) (h : LeB d b) {p : TCT cP} (hp : OkP b p) {W W' : TCT cP → TCT cC} (hW : ∀ p, OkP b p → Upto (room d p) (W p) ∧ Upto (room b p) (W' p) ∧ Le2 (un (W p)) (un (W' p))) :
    ∀ (l : List (TCT cA)) (s s' : TCT cC), (∀ a ∈ l, Legal b p a ∧ Legal d p a) → Le2 (un s) (un s') → Le2 (un (bestF W d p l s)) (un (bestF W' b p l s'))
  | [], _, _, _, hs => hs
  | a :: l, s, s', hl, hs => best_in hd hb h hp hW l _ _ (fun x hx => hl x (List.mem_cons_of_mem _ hx)) (max_in hs (w_in hd hb h hp (hl a (List.mem_cons_self ..)).1 (hl a (List.mem_cons_self ..)).2 hW))
theorem Vf_in {d b : TCT cB} (hd : OkB d) (hb : OkB b) (h : LeB d b) : ∀ (n : Nat) (p : TCT cP), OkP b p → Le2 (un (Vf n d p)) (un (Vf n b p))
  | 0, _, _ => ⟨Int.le_refl _, Int.le_refl _⟩
  | n + 1, p, hp => by
    show Le2 (un (bestF (Vf n d) d p (actsF d p) zC)) (un (bestF (Vf n b) b p (actsF b p) zC))
    rw [acts_same h]
    refine best_in hd hb h hp (fun q hq => ⟨Vf_upto hd n q (okP_same h hq), Vf_upto hb n q hq, Vf_in hd hb h n q hq⟩) _ _ _ (fun a ha => ⟨legal_of hb hp ha, legal_of hd (okP_same h hp) (by rw [acts_same h]; exact ha)⟩) ⟨Int.le_refl _, Int.le_refl _⟩
theorem Val_in {d b : TCT cB} (hd : OkB d) (hb : OkB b) (h : LeB d b) {p : TCT cP} (hp : OkP b p) : Le2 (un (Val d p)) (un (Val b p)) := Vf_in hd hb h 21 p hp
end Mo
end V
end Go.Proofs.YtialgmhhkbdegaaGreat
