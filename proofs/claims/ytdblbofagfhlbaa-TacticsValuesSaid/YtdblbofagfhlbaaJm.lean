/- The law TacticsBest: plain facts. -/
import Derived.Test.YtdblbofagfhlbaaJl
namespace Go.Proofs.Ytdblbofagfhlbaa
open Go.RowKit
namespace V
/-- nothing stands behind the balls of a place -/
structure Norm (p : TCT cP) : Prop where
  b0 : pN p < 1 → pB p 0 = 0
  d0 : pN p < 1 → pD p 0 = false
  b1 : pN p < 2 → pB p 1 = 0
  d1 : pN p < 2 → pD p 1 = false
theorem getA_ge {β : Type} {l : List β} {i : Nat} (h : l.length ≤ i) (d : β) : getA l i d = d := by
  rw [getA_eq]; simp [h]
theorem norm_place {b : TCT cB} {x : TCT cSc} (h : placeOk b x = true) : Norm (placeF x) := by
  unfold placeOk at h
  simp only [Bool.and_eq_true_iff] at h
  obtain ⟨_, _, _, h4, _⟩ := h
  have h4 : (((x.2.2.2.1 : List Bool).length : Nat) : Int) = (((x.2.2.1 : List Int).length : Nat) : Int) := of_decide_eq_true h4
  have hl : pN (placeF x) = (((x.2.2.1 : List Int).length : Nat) : Int) := rfl
  exact ⟨fun h => getA_ge (l := (x.2.2.1 : List Int)) (by omega) _, fun h => getA_ge (l := (x.2.2.2.1 : List Bool)) (by omega) _, fun h => getA_ge (l := (x.2.2.1 : List Int)) (by omega) _, fun h => getA_ge (l := (x.2.2.2.1 : List Bool)) (by omega) _⟩
theorem norm_after {b : TCT cB} {p : TCT cP} (hn : Norm p) {a : TCT cA} (h : Legal b p a) : Norm (afterF b p a) := by
  rcases h.2 with rfl | ha
  · exact ⟨hn.b0, fun _ => rfl, hn.b1, fun _ => rfl⟩
  · have hk1 : (a.1 == 1) = false := by
      show (aK a == 1) = false
      rw [ha.k]; rfl
    have hk2 : (a.1 != 1) = true := by
      show (aK a != 1) = true
      rw [ha.k]; rfl
    have e3 : pN (afterF b p a) = pN p := rfl
    have e4 : pB (afterF b p a) 0 = bif decide (aI a = 0) then aS a else pB p 0 := by
      show (bif a.1 != 1 && decide (aI a = 0) then aS a else pB p 0) = _
      rw [hk2, Bool.true_and]
    have e5 : pB (afterF b p a) 1 = bif decide (aI a = 1) then aS a else pB p 1 := by
      show (bif a.1 != 1 && decide (aI a = 1) then aS a else pB p 1) = _
      rw [hk2, Bool.true_and]
    have e6 : pD (afterF b p a) 0 = bif decide (aI a = 0) then true else pD p 0 := by
      show (bif a.1 == 1 then false else bif decide (aI a = 0) then true else pD p 0) = _
      rw [hk1, cond_false]
    have e7 : pD (afterF b p a) 1 = bif decide (aI a = 1) then true else pD p 1 := by
      show (bif a.1 == 1 then false else bif decide (aI a = 1) then true else pD p 1) = _
      rw [hk1, cond_false]
    rcases ha.i with ⟨hi, h0, _⟩ | ⟨hi, h0, _⟩
    · rw [hi] at e4 e5 e6 e7
      exact ⟨fun h => by rw [e3] at h; omega, fun h => by rw [e3] at h; omega, fun h => by rw [e5]; exact hn.b1 (by rw [← e3]; exact h), fun h => by rw [e7]; exact hn.d1 (by rw [← e3]; exact h)⟩
    · rw [hi] at e4 e5 e6 e7
      exact ⟨fun h => by rw [e3] at h; omega, fun h => by rw [e3] at h; omega, fun h => by rw [e3] at h; omega, fun h => by rw [e3] at h; omega⟩
def mkP (a h n b0 b1 : Int) (d0 d1 : Bool) : TCT cP := (a, h, n, (b0, b1, ()), (d0, d1, ()), ())
theorem place_sceneM (a h n b0 b1 : Int) (d0 d1 : Bool) (hn : 0 ≤ n ∧ n ≤ 2) (hm : Norm (mkP a h n b0 b1 d0 d1)) : placeF (sceneF (mkP a h n b0 b1 d0 d1)) = mkP a h n b0 b1 d0 d1 := by
  obtain ⟨m1, m2, m3, m4⟩ := hm
  have m1 : n < 1 → b0 = 0 := m1
  have m2 : n < 1 → d0 = false := m2
  have m3 : n < 2 → b1 = 0 := m3
  have m4 : n < 2 → d1 = false := m4
  have : n = 0 ∨ n = 1 ∨ n = 2 := by omega
  rcases this with rfl | rfl | rfl
  · rw [m1 (by omega), m2 (by omega), m3 (by omega), m4 (by omega)]; rfl
  · rw [m3 (by omega), m4 (by omega)]; rfl
  · rfl
theorem place_scene {p : TCT cP} (hn : 0 ≤ pN p ∧ pN p ≤ 2) (hm : Norm p) : placeF (sceneF p) = p := place_sceneM p.1 p.2.1 p.2.2.1 p.2.2.2.1.1 p.2.2.2.1.2.1 p.2.2.2.2.1.1 p.2.2.2.2.1.2.1 hn hm
theorem placeOkM (b : TCT cB) (a h n b0 b1 : Int) (d0 d1 : Bool) (hp : OkP b (mkP a h n b0 b1 d0 d1)) : placeOk b (sceneF (mkP a h n b0 b1 d0 d1)) = true := by
  have k1 : 0 ≤ a ∧ a < cellsF b := hp.a
  have k2 : 0 ≤ h ∧ h ≤ bN b := hp.h
  have k3 : 0 ≤ n ∧ n ≤ 2 := hp.n
  have k4 : 0 < n → 0 ≤ b0 ∧ b0 < cellsF b := hp.c0
  have k5 : 1 < n → 0 ≤ b1 ∧ b1 < cellsF b := hp.c1
  have e0 : cellOk b a = true := decide_eq_true k1
  have e1 : decide (0 ≤ h ∧ h ≤ bN b) = true := decide_eq_true k2
  have : n = 0 ∨ n = 1 ∨ n = 2 := by omega
  rcases this with rfl | rfl | rfl
  · show (cellOk b a && (decide (0 ≤ h ∧ h ≤ bN b) && (true && (true && true)))) = true
    rw [e0, e1]; rfl
  · have e2 : cellOk b b0 = true := decide_eq_true (k4 (by omega))
    show (cellOk b a && (decide (0 ≤ h ∧ h ≤ bN b) && (true && (true && (cellOk b b0 && true))))) = true
    rw [e0, e1, e2]; rfl
  · have e2 : cellOk b b0 = true := decide_eq_true (k4 (by omega))
    have e3 : cellOk b b1 = true := decide_eq_true (k5 (by omega))
    show (cellOk b a && (decide (0 ≤ h ∧ h ≤ bN b) && (true && (true && (cellOk b b0 && (cellOk b b1 && true)))))) = true
    rw [e0, e1, e2, e3]; rfl
theorem placeOk_scene {b : TCT cB} {p : TCT cP} (hp : OkP b p) : placeOk b (sceneF p) = true := placeOkM b p.1 p.2.1 p.2.2.1 p.2.2.2.1.1 p.2.2.2.1.2.1 p.2.2.2.2.1.1 p.2.2.2.2.1.2.1 hp
theorem legalB_in {b : TCT cB} {p : TCT cP} {a : TCT cA} (h : a ∈ actsF b p) : legalB b p a = true := by
  unfold legalB
  rw [List.any_eq_true]
  exact ⟨a, h, eqAct_iff.2 rfl⟩
/-- what an act of a scene comes to -/
theorem act_facts {b : TCT cB} (hb : bOk b = true) {x : TCT cSc} (hx : placeOk b x = true) {a : TCT cA} (ha : a ∈ actsF b (placeF x)) :
    worthE b x a = 0 ∧ worthV b x a = wF (Val b) b (placeF x) a ∧ afterV b x a = sceneF (afterF b (placeF x) a) ∧ sceneE b (afterV b x a) = 0 ∧ placeF (afterV b x a) = afterF b (placeF x) a ∧ valF b (afterV b x a) = Val b (afterF b (placeF x) a) := by
  have hB := okB_of hb
  have hP := place_okP hx
  have hl := legal_of hB hP ha
  obtain ⟨_, q, _⟩ := legal_step hB hP hl
  have e1 : worthE b x a = 0 := by unfold worthE; rw [hb, hx, legalB_in ha]; rfl
  have e2 : worthV b x a = wF (Val b) b (placeF x) a := by unfold worthV; rw [e1]; rfl
  have e3 : afterV b x a = sceneF (afterF b (placeF x) a) := by unfold afterV; rw [e1]; rfl
  have e4 := placeOk_scene q
  have e5 := place_scene q.n (norm_after (norm_place hx) hl)
  refine ⟨e1, e2, e3, ?_, ?_, ?_⟩
  · rw [e3]; unfold sceneE; rw [hb, e4]; rfl
  · rw [e3, e5]
  · rw [e3]; unfold valF; rw [hb, e4, e5]; rfl
theorem chk_of {ch va : TCT cC} {g m : Int} (hc : validC (un ch) = true) (hg : 0 ≤ g) (hv : 0 ≤ vLo va ∧ vLo va ≤ vHi va ∧ vHi va + g ≤ m) (hm : m ≤ 100000000) : okChk (mk (timesF (un ch) (un va) g)) va ch g = true := by
  have hc : 0 ≤ ch.1 ∧ ch.1 ≤ ch.2.1 ∧ ch.2.1 ≤ 1000000 := of_decide_eq_true hc
  have e1 : (mk (timesF (un ch) (un va) g)).1 = dn (ch.1 * (va.1 + g)) := rfl
  have e2 : (mk (timesF (un ch) (un va) g)).2.1 = up (ch.2.1 * (va.2.1 + g)) := rfl
  unfold okChk
  rw [e1, e2]
  have key : ∀ c1 c2 v1 v2 : Int, 0 ≤ c1 ∧ c1 ≤ c2 ∧ c2 ≤ 1000000 → 0 ≤ v1 ∧ v1 ≤ v2 ∧ v2 + g ≤ m →
      (!decide (W64 (dn (c1 * (v1 + g)) * 1000000) > W64 (c1 * W64 (v1 + g))) && (!decide (W64 (W64 (dn (c1 * (v1 + g)) + 1) * 1000000) ≤ W64 (c1 * W64 (v1 + g))) &&
      (!decide (W64 (up (c2 * (v2 + g)) * 1000000) < W64 (c2 * W64 (v2 + g))) && !decide (W64 (W64 (up (c2 * (v2 + g)) - 1) * 1000000) ≥ W64 (c2 * W64 (v2 + g)))))) = true := by
    intro c1 c2 v1 v2 h1 h2
    have k1 := mul_le' (m := m) ⟨h1.1, by omega⟩ (b := v1 + g) ⟨by omega, by omega⟩
    have k2 := mul_le' (m := m) (a := c2) ⟨by omega, by omega⟩ (b := v2 + g) ⟨by omega, by omega⟩
    rw [W64_id (n := v1 + g) (by omega) (by omega), W64_id (n := v2 + g) (by omega) (by omega)]
    generalize c1 * (v1 + g) = A at *
    generalize c2 * (v2 + g) = B at *
    unfold dn up
    rw [W64_id (n := A) (by omega) (by omega), W64_id (n := B) (by omega) (by omega), W64_id (n := A / 1000000 * 1000000) (by omega) (by omega), W64_id (n := A / 1000000 + 1) (by omega) (by omega), W64_id (n := (A / 1000000 + 1) * 1000000) (by omega) (by omega),
      W64_id (n := (B + 999999) / 1000000 * 1000000) (by omega) (by omega), W64_id (n := (B + 999999) / 1000000 - 1) (by omega) (by omega), W64_id (n := ((B + 999999) / 1000000 - 1) * 1000000) (by omega) (by omega)]
    rw [decide_eq_false (by omega), decide_eq_false (by omega), decide_eq_false (by omega), decide_eq_false (by omega)]
    rfl
  exact key ch.1 ch.2.1 va.1 va.2.1 hc hv
theorem okDst_of {b : TCT cB} (hb : bOk b = true) {c d : Int} (hc : cellOk b c = true) (hd : cellOk b d = true) {t : TCT c3} (ht : runsOk t = true) {wo va : TCT cC} {g : Int} (h : ∀ ch, pickO t (awayF b c d) = some ch → validC (un ch) = true → okChk wo va ch g = true) : okDst (distE b c d) (distV b c d) t wo va g = true := by
  have hB := okB_of hb
  have e1 : distE b c d = 0 := by unfold distE; rw [hb, hc, hd]; rfl
  have e2 : distV b c d = awayF b c d := by unfold distV; rw [e1]; rfl
  have ha := away_le hB (of_decide_eq_true hc) (of_decide_eq_true hd)
  obtain ⟨ch, p1, p2⟩ := pickO_some ht ha
  unfold okDst
  rw [e1, e2, decide_eq_false (show ¬ awayF b c d < 0 by omega), decide_eq_false (show ¬ awayF b c d > 2 by omega), p1]
  exact h ch p1 p2
theorem okAct_of {b : TCT cB} (hb : bOk b = true) {x : TCT cSc} (hx : placeOk b x = true) {a : TCT cA} (ha : a ∈ actsF b (placeF x)) : okAct b x a = true := by
  have hB := okB_of hb
  have hP := place_okP hx
  have hl := legal_of hB hP ha
  obtain ⟨e1, e2, e3, e4, e5, e6⟩ := act_facts hb hx ha
  obtain ⟨_, q, _, ch, hch, hv⟩ := legal_step hB hP hl
  obtain ⟨g1, g2, g3⟩ := gain_legal hB hP hl
  have hu := Val_upto hB q
  have hr : room b (afterF b (placeF x) a) ≤ 6000000 := by
    have := q.h
    have := hB.n
    unfold room
    omega
  have hchk : okChk (worthV b x a) (valF b (afterV b x a)) ch (gainF a) = true := by
    rw [e2, e6]
    have : wF (Val b) b (placeF x) a = mk (timesF (un ch) (un (Val b (afterF b (placeF x) a))) (gainF a)) := by
      unfold wF chF
      rw [hch]; rfl
    rw [this]
    exact chk_of (m := 7000000) hv g1 ⟨hu.1, hu.2.1, by have := hu.2.2; omega⟩ (by omega)
  have hlt : pH (placeF x) < bN b := hl.1
  have hge := hP.h
  have hhoop : decide (0 ≤ x.2.1 ∧ x.2.1 < (b.2.2.1.length : Int)) = true := decide_eq_true ⟨hge.1, hlt⟩
  have hw : (b.1 != 0) = true := w_ne hB
  unfold okAct
  rw [e1, e4, hhoop]
  show (true && (true && (true && _))) = true
  simp only [Bool.true_and]
  have hat : cellOk b x.1 = true := decide_eq_true hP.a
  rcases hl.2 with rfl | hq
  · show okDst _ _ _ _ _ _ = true
    have hh : hoopS b x = hoopAt b (placeF x) := rfl
    have hlt2 : (pH (placeF x)).toNat < (b.2.2.1 : List Int).length := by
      have : bN b = ((b.2.2.1 : List Int).length : Int) := rfl
      omega
    have hc : cellOk b (hoopS b x) = true := by
      rw [hh]
      have e : hoopAt b (placeF x) = getA (b.2.2.1 : List Int) (pH (placeF x)).toNat (dflt cI) := rfl
      rw [e, getA_lt hlt2]
      exact decide_eq_true (hB.hs _ (List.getElem_mem hlt2))
    refine okDst_of hb hat hc hB.run fun ch' h1 _ => ?_
    have : chanceO b (placeF x) runA = pickO b.2.2.2.1 (awayF b x.1 (hoopS b x)) := by
      unfold chanceO
      have hr : runOk b (placeF x) = true := decide_eq_true ⟨hge.1, hlt⟩
      rw [hw, hr]
      rfl
    rw [this, h1] at hch
    cases hch
    exact hchk
  · have hk2 : (a.1 == 2) = true := by
      show (aK a == 2) = true
      rw [hq.k]; rfl
    have hk1 : (a.1 == 1) = false := by
      show (aK a == 1) = false
      rw [hq.k]; rfl
    have hg : gainF a = 0 := by unfold gainF; rw [hk1]; rfl
    rw [hg] at hchk
    have hl0 : pN (placeF x) = (((x.2.2.1 : List Int).length : Nat) : Int) := rfl
    rw [hk2, cond_true]
    have fin : ∀ i : Nat, aI a = (i : Int) → (i : Int) < pN (placeF x) → (0 ≤ getA (x.2.2.1 : List Int) i (0 : Int) ∧ getA (x.2.2.1 : List Int) i (0 : Int) < cellsF b) → chanceO b (placeF x) a = pickO b.2.2.2.2.1 (awayF b x.1 (getA (x.2.2.1 : List Int) i (0 : Int))) →
        (decide (0 ≤ a.2.1 ∧ a.2.1 < (x.2.2.1.length : Int)) && okDst (distE b x.1 (ballA x a.2.1)) (distV b x.1 (ballA x a.2.1)) b.2.2.2.2.1 (worthV b x a) (valF b (afterV b x a)) 0) = true := by
      intro i hi hn hcell hce
      have hd : decide (0 ≤ a.2.1 ∧ a.2.1 < (x.2.2.1.length : Int)) = true := by
        refine decide_eq_true (?_ : 0 ≤ aI a ∧ aI a < (((x.2.2.1 : List Int).length : Nat) : Int))
        omega
      have hb2 : ballA x a.2.1 = getA (x.2.2.1 : List Int) i (0 : Int) := by
        show getA (x.2.2.1 : List Int) (aI a).toNat (0 : Int) = _
        rw [show (aI a).toNat = i by omega]
      rw [hd, Bool.true_and, hb2]
      refine okDst_of hb hat (decide_eq_true hcell) hB.hit fun ch' h1 _ => ?_
      rw [hce, h1] at hch
      cases hch
      exact hchk
    have hce : chanceO b (placeF x) a = bif decide (aI a = 0) then pickO b.2.2.2.2.1 (awayF b x.1 (pB (placeF x) 0)) else bif decide (aI a = 1) then pickO b.2.2.2.2.1 (awayF b x.1 (pB (placeF x) 1)) else none := by
      unfold chanceO
      rw [hw, hk1]
      rfl
    rcases hq.i with ⟨hi, hn, _⟩ | ⟨hi, hn, _⟩
    · exact fin 0 hi hn (hP.c0 hn) (by rw [hce, hi]; rfl)
    · exact fin 1 hi hn (hP.c1 hn) (by rw [hce, hi]; rfl)
end V
end Go.Proofs.Ytdblbofagfhlbaa
