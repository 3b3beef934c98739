/- The reference: what it computes are the values: plain facts. -/
import Derived.Test.YtdblbofagfhlbaaJt
import Derived.Test.YtdblbofagfhlbaaJm
namespace Go.Proofs.Ytdblbofagfhlbaa
open Go.RowKit
namespace V
namespace K9
/-! numbers tell scenes apart -/
theorem base_uniq {B a r a' r' : Int} (h1 : 0 ≤ r ∧ r < B) (h2 : 0 ≤ r' ∧ r' < B) (h : a * B + r = a' * B + r') : a = a' ∧ r = r' := by
  have hB : B ≠ 0 := by omega
  have e1 : (a * B + r) / B = a := by
    rw [Int.add_comm, Int.add_mul_ediv_right _ _ hB, Int.ediv_eq_zero_of_lt h1.1 h1.2]; omega
  have e2 : (a' * B + r') / B = a' := by
    rw [Int.add_comm, Int.add_mul_ediv_right _ _ hB, Int.ediv_eq_zero_of_lt h2.1 h2.2]; omega
  have e : a = a' := by rw [← e1, ← e2, h]
  subst e
  exact ⟨rfl, by omega⟩
theorem num_range {b : TCT cB} (hb : OkB b) {x : TCT cSc} (hp : placeOk b x = true) : 0 ≤ numN b x ∧ numN b x < sizeW b := by
  obtain ⟨e, h1, h2⟩ := size_eq hb
  obtain ⟨_, hbs⟩ := base_eq hb
  obtain ⟨_, _, h3⟩ := scene_shape hp
  have hc := hb.c.2
  have hn := head_num hp
  have d0 := dgN_le (d := sD x) (h3 0) hc.1
  have d1 := dgN_le (d := sD x) (h3 1) hc.1
  have eb : bsN b = 2 * cellsF b + 1 := rfl
  have k1 : (sH x * cellsF b + sA x) * bsN b ≤ ((bN b + 1) * cellsF b - 1) * bsN b := Int.mul_le_mul_of_nonneg_right (by omega) (by omega)
  have k2 : 0 ≤ (sH x * cellsF b + sA x) * bsN b := Int.mul_nonneg hn.1 (by omega)
  rw [Int.sub_mul, Int.one_mul] at k1
  have k3 : ((sH x * cellsF b + sA x) * bsN b + dgN (sB x) (sD x) 0) * bsN b ≤ ((bN b + 1) * cellsF b * bsN b - 1) * bsN b := Int.mul_le_mul_of_nonneg_right (by omega) (by omega)
  have k4 : 0 ≤ ((sH x * cellsF b + sA x) * bsN b + dgN (sB x) (sD x) 0) * bsN b := Int.mul_nonneg (by omega) (by omega)
  rw [Int.sub_mul, Int.one_mul] at k3
  rw [e]
  unfold numN
  omega
theorem dgN_eq {l l' : List Int} {d d' : List Bool} {i : Nat} (hl : i < l.length → 0 ≤ getA l i (0 : Int)) (hl' : i < l'.length → 0 ≤ getA l' i (0 : Int)) (h : dgN l d i = dgN l' d' i) :
    (i < l.length ↔ i < l'.length) ∧ (i < l.length → getA l i (0 : Int) = getA l' i (0 : Int) ∧ getA d i false = getA d' i false) := by
  unfold dgN at h
  by_cases h1 : i < l.length
  · have k1 := hl h1
    rw [decide_eq_true h1, cond_true] at h
    by_cases h2 : i < l'.length
    · have k2 := hl' h2
      rw [decide_eq_true h2, cond_true] at h
      refine ⟨by omega, fun _ => ?_⟩
      cases h3 : getA d i false <;> cases h4 : getA d' i false <;> rw [h3, h4] at h <;> simp only [cond_true, cond_false] at h
      · exact ⟨by omega, rfl⟩
      · omega
      · omega
      · exact ⟨by omega, rfl⟩
    · rw [decide_eq_false h2, cond_false] at h
      cases h3 : getA d i false <;> rw [h3] at h <;> simp only [cond_true, cond_false] at h <;> omega
  · rw [decide_eq_false h1, cond_false] at h
    by_cases h2 : i < l'.length
    · have k2 := hl' h2
      rw [decide_eq_true h2, cond_true] at h
      cases h4 : getA d' i false <;> rw [h4] at h <;> simp only [cond_true, cond_false] at h <;> omega
    · exact ⟨by omega, fun h => absurd h h1⟩
theorem num_inj {b : TCT cB} (hb : OkB b) {x y : TCT cSc} (hx : placeOk b x = true) (hy : placeOk b y = true) (h : numN b x = numN b y) : placeF x = placeF y := by
  have hc := hb.c.2
  obtain ⟨x1, x2, x3⟩ := scene_shape hx
  obtain ⟨y1, y2, y3⟩ := scene_shape hy
  have d0 := dgN_le (d := sD x) (x3 0) hc.1
  have d1 := dgN_le (d := sD x) (x3 1) hc.1
  have e0 := dgN_le (d := sD y) (y3 0) hc.1
  have e1 := dgN_le (d := sD y) (y3 1) hc.1
  have eb : bsN b = 2 * cellsF b + 1 := rfl
  unfold numN at h
  obtain ⟨h, q1⟩ := base_uniq (by omega) (by omega) h
  obtain ⟨h, q0⟩ := base_uniq (by omega) (by omega) h
  have ax : 0 ≤ sA x ∧ sA x < cellsF b := (place_okP hx).a
  have ay : 0 ≤ sA y ∧ sA y < cellsF b := (place_okP hy).a
  obtain ⟨qh, qa⟩ := base_uniq ax ay h
  obtain ⟨l0, v0⟩ := dgN_eq (fun hi => (x3 0 hi).1) (fun hi => (y3 0 hi).1) q0
  obtain ⟨l1, v1⟩ := dgN_eq (fun hi => (x3 1 hi).1) (fun hi => (y3 1 hi).1) q1
  have hl : (sB x).length = (sB y).length := by omega
  have hz : ∀ i, (i < (sB x).length → getA (sB x) i (0 : Int) = getA (sB y) i (0 : Int) ∧ getA (sD x) i false = getA (sD y) i false) → getA (sB x) i (0 : Int) = getA (sB y) i (0 : Int) ∧ getA (sD x) i false = getA (sD y) i false := by
    intro i hi
    by_cases h : i < (sB x).length
    · exact hi h
    · rw [getA_ge (by omega), getA_ge (by omega), getA_ge (l := sD x) (by omega), getA_ge (l := sD y) (by omega)]
      exact ⟨rfl, rfl⟩
  obtain ⟨b0, c0⟩ := hz 0 v0
  obtain ⟨b1, c1⟩ := hz 1 v1
  show ((sA x, sH x, ((sB x).length : Int), (getA (sB x) 0 (0 : Int), getA (sB x) 1 (0 : Int), ()), (getA (sD x) 0 false, getA (sD x) 1 false, ()), ()) : TCT cP) = (sA y, sH y, ((sB y).length : Int), (getA (sB y) 0 (0 : Int), getA (sB y) 1 (0 : Int), ()), (getA (sD y) 0 false, getA (sD y) 1 false, ()), ())
  rw [qa, qh, hl, b0, b1, c0, c1]
/-! what is known is right -/
def nN (b : TCT cB) (x : TCT cSc) : Nat := (numN b x).toNat
structure RightK (b : TCT cB) (k : Kn) : Prop where
  len : (k.length : Int) = sizeW b
  ok : ∀ x, placeOk b x = true → vLo (getA k (nN b x) zC) < 0 ∨ getA k (nN b x) zC = Val b (placeF x)
theorem rightK_put {b : TCT cB} (hb : OkB b) {k : Kn} (h : RightK b k) {x : TCT cSc} (hp : placeOk b x = true) : RightK b (setA k (nN b x) (Val b (placeF x))) := by
  refine ⟨by rw [setA_eq, List.length_set]; exact h.len, fun y hy => ?_⟩
  have h1 := num_range hb hp
  have h2 := num_range hb hy
  have hl := h.len
  have ly : nN b y < k.length := by unfold nN; omega
  rw [setA_eq, getA_lt (by rw [List.length_set]; exact ly)]
  by_cases he : nN b x = nN b y
  · have e : numN b x = numN b y := by unfold nN at he; omega
    rw [num_inj hb hp hy e]
    right
    rw [List.getElem_set, if_pos he]
  · have := h.ok y hy
    rw [getA_lt ly] at this
    rw [List.getElem_set, if_neg he]
    exact this
def k0 (b : TCT cB) : Kn := List.replicate (sizeW b).toNat xC
theorem right_k0 {b : TCT cB} (hb : OkB b) : RightK b (k0 b) := by
  obtain ⟨_, h1, _⟩ := size_eq hb
  refine ⟨by unfold k0; rw [List.length_replicate]; omega, fun x hp => .inl ?_⟩
  have := num_range hb hp
  unfold k0
  rw [getA_lt (by rw [List.length_replicate]; unfold nN; omega), List.getElem_replicate]
  decide
/-! an act's worth -/
theorem rw1_ok {c v : TCT cC} (h1 : fitC (un c) = true) (h2 : gainOk (un v) 1000000 = true) : rw1 c v = mk (timesF (un c) (un v) 1000000) := by
  have := T_times_ok c.1 c.2.1 v.1 v.2.1 1000000 h1 h2
  exact congrArg Prod.fst this
theorem rw0_ok {c v : TCT cC} (h1 : fitC (un c) = true) (h2 : gainOk (un v) 0 = true) : rw0 c v = mk (timesF (un c) (un v) 0) := by
  have h3 := of_decide_eq_true h2
  have e1 : W64 (v.1 + 0) = v.1 := by
    have : W64 ((un v).1 + 0) = (un v).1 := by rw [W64_id (by omega) (by omega)]; omega
    exact this
  have e2 : W64 (v.2.1 + 0) = v.2.1 := by
    have : W64 ((un v).2 + 0) = (un v).2 := by rw [W64_id (by omega) (by omega)]; omega
    exact this
  have := congrArg Prod.fst (T_times_ok c.1 c.2.1 v.1 v.2.1 0 h1 h2)
  rw [e1, e2] at this
  exact this
theorem chR_eq {b : TCT cB} (hb : OkB b) {x : TCT cSc} (hp : placeOk b x = true) {a : TCT cA} (ha : Legal b (placeF x) a) : chR b x a = chanceO b (placeF x) a := by
  have hP := place_okP hp
  have hw := w_ne hb
  unfold chR chanceO
  rw [hw]
  simp only [cond_true]
  rcases ha.2 with rfl | hr
  · exact rfl
  · have e1 : (a.1 == 1) = false := by
      show (aK a == 1) = false
      rw [hr.k]; rfl
    rw [e1]
    simp only [cond_false]
    have key : ∀ ai : Int, ai = 0 ∧ 0 < pN (placeF x) ∨ ai = 1 ∧ 1 < pN (placeF x) → (bif decide (0 ≤ ai ∧ ai < ((sB x).length : Int)) then pickO b.2.2.2.2.1 (awayF b x.1 (getA (sB x) ai.toNat (0 : Int))) else none) =
        (bif decide (ai = 0) then pickO b.2.2.2.2.1 (awayF b x.1 (getA (sB x) 0 (0 : Int))) else bif decide (ai = 1) then pickO b.2.2.2.2.1 (awayF b x.1 (getA (sB x) 1 (0 : Int))) else none) := by
      intro ai h
      have hn : pN (placeF x) = ((sB x).length : Int) := rfl
      rw [hn] at h
      rcases h with ⟨rfl, h⟩ | ⟨rfl, h⟩
      · rw [decide_eq_true (show (0 : Int) ≤ 0 ∧ (0 : Int) < ((sB x).length : Int) by omega)]; rfl
      · rw [decide_eq_true (show (0 : Int) ≤ 1 ∧ (1 : Int) < ((sB x).length : Int) by omega)]; rfl
    refine key a.2.1 ?_
    rcases hr.i with ⟨h1, h2, _⟩ | ⟨h1, h2, _⟩
    · exact .inl ⟨h1, h2⟩
    · exact .inr ⟨h1, h2⟩
theorem wR_ok {V : VR} {b : TCT cB} (hbb : bOk b = true) {x : TCT cSc} (hp : placeOk b x = true) {a : TCT cA} (ha : a ∈ actsF b (placeF x)) {k k' : Kn} (hV : V b (afR b x a) k = some (Val b (afterF b (placeF x) a), k')) : wR V b x a k = some (wF (Val b) b (placeF x) a, k') := by
  have hb := okB_of hbb
  have hP := place_okP hp
  have hl := legal_of hb hP ha
  obtain ⟨h1, h2, h3, c, hc, hv⟩ := legal_step hb hP hl
  obtain ⟨g1, g2, g3⟩ := gain_legal hb hP hl
  have ho : okR b x a = true := by unfold okR; rw [hbb, hp, legalB_in ha]; rfl
  unfold wR wF chF
  rw [ho, cond_true, hV, Option.bind_some, chR_eq hb hp hl, hc]
  have hu := Val_upto hb h2
  have hr : room b (afterF b (placeF x) a) ≤ 6000000 := by
    have := h2.h
    have := hb.n
    unfold room
    omega
  obtain ⟨u1, u2, u3⟩ := hu
  have hg : gainOk (un (Val b (afterF b (placeF x) a))) (gainF a) = true := by
    have e1 : (un (Val b (afterF b (placeF x) a))).1 = vLo (Val b (afterF b (placeF x) a)) := rfl
    have e2 : (un (Val b (afterF b (placeF x) a))).2 = vHi (Val b (afterF b (placeF x) a)) := rfl
    unfold gainOk
    rw [e1, e2]
    exact decide_eq_true (by omega)
  show some (bif a.1 == 1 then rw1 c (Val b (afterF b (placeF x) a)) else rw0 c (Val b (afterF b (placeF x) a)), k') = some (mk (timesF (un c) (un (Val b (afterF b (placeF x) a))) (gainF a)), k')
  unfold gainF at hg ⊢
  cases he : a.1 == 1 with
  | true =>
    rw [he] at hg
    simp only [cond_true] at hg ⊢
    rw [rw1_ok (fit_valid hv) hg]
  | false =>
    rw [he] at hg
    simp only [cond_false] at hg ⊢
    rw [rw0_ok (fit_valid hv) hg]
/-- the scene after an act -/
theorem afR_ok {b : TCT cB} (hbb : bOk b = true) {x : TCT cSc} (hp : placeOk b x = true) {a : TCT cA} (ha : a ∈ actsF b (placeF x)) : placeOk b (afR b x a) = true ∧ placeF (afR b x a) = afterF b (placeF x) a ∧ mu b (afterF b (placeF x) a) < mu b (placeF x) := by
  obtain ⟨_, _, f3, _, f5, _⟩ := act_facts hbb hp ha
  have hb := okB_of hbb
  obtain ⟨_, q, qm, _⟩ := legal_step hb (place_okP hp) (legal_of hb (place_okP hp) ha)
  refine ⟨placeOk_scene q, ?_, qm⟩
  rw [← f5, f3]; rfl
theorem foldR_ok {V : VR} {b : TCT cB} (hbb : bOk b = true) {x : TCT cSc} (hp : placeOk b x = true) (hV : ∀ a k, a ∈ actsF b (placeF x) → RightK b k → ∃ k', V b (afR b x a) k = some (Val b (afterF b (placeF x) a), k') ∧ RightK b k') :
    ∀ (l : List (TCT cA)) (s : TCT cC) (k : Kn), (∀ a ∈ l, a ∈ actsF b (placeF x)) → RightK b k → ∃ k', foldO (stR V b x) (s, k) l = some (bestF (Val b) b (placeF x) l s, k') ∧ RightK b k'
  | [], s, k, _, h => ⟨k, rfl, h⟩
  | a :: l, s, k, hl, h => by
    have ha := hl a (List.mem_cons_self ..)
    obtain ⟨k1, e1, r1⟩ := hV a k ha h
    obtain ⟨k2, e2, r2⟩ := foldR_ok hbb hp hV l (maxC s (wF (Val b) b (placeF x) a)) k1 (fun y hy => hl y (List.mem_cons_of_mem _ hy)) r1
    refine ⟨k2, ?_, r2⟩
    have e3 : stR V b x (s, k) a = some (maxC s (wF (Val b) b (placeF x) a), k1) := by
      unfold stR
      rw [wR_ok hbb hp ha e1]
      rfl
    simp only [foldO, e3, Option.bind_some]
    exact e2
theorem valRN_ok {b : TCT cB} (hbb : bOk b = true) : ∀ (n : Nat) (x : TCT cSc) (k : Kn), placeOk b x = true → mu b (placeF x) < n → RightK b k → ∃ k', valRN n b x k = some (Val b (placeF x), k') ∧ RightK b k'
  | 0, _, _, _, h, _ => absurd h (Nat.not_lt_zero _)
  | n + 1, x, k, hp, hn, hk => by
    have hb := okB_of hbb
    have hr := num_range hb hp
    have hl := hk.len
    show ∃ k', valRS (valRN n) b x k = some (Val b (placeF x), k') ∧ RightK b k'
    unfold valRS
    rw [hbb, hp, decide_eq_true (show 0 ≤ numN b x ∧ numN b x < (k.length : Int) by omega)]
    simp only [Bool.and_self, cond_true]
    have ed : dflt cC = zC := rfl
    rw [ed]
    cases hd : decide ((getA k (numN b x).toNat zC).1 ≥ 0) with
    | true =>
      have h0 : vLo (getA k (nN b x) zC) ≥ 0 := of_decide_eq_true hd
      rcases hk.ok x hp with h | h
      · omega
      · exact ⟨k, by rw [cond_true]; exact congrArg (fun v => some (v, k)) h, hk⟩
    | false =>
      obtain ⟨k', e, r⟩ := foldR_ok (V := valRN n) hbb hp (fun a k ha hr => by
        obtain ⟨q1, q2, q3⟩ := afR_ok hbb hp ha
        have := valRN_ok hbb n (afR b x a) k q1 (by rw [q2]; omega) hr
        rw [q2] at this
        exact this) (actsF b (placeF x)) zC k (fun a ha => ha) hk
      rw [cond_false, e, Option.bind_some]
      unfold putR
      have hl' := r.len
      refine ⟨setA k' (nN b x) (Val b (placeF x)), ?_, rightK_put hb r hp⟩
      simp only
      rw [decide_eq_true (show 0 ≤ numN b x ∧ numN b x < (k'.length : Int) by omega), cond_true, ← Val_eq hb (place_okP hp)]
      rfl
def VRX : VR := valRN 21
theorem VRX_ok {b : TCT cB} (hbb : bOk b = true) {x : TCT cSc} (hp : placeOk b x = true) {k : Kn} (hk : RightK b k) : ∃ k', VRX b x k = some (Val b (placeF x), k') ∧ RightK b k' :=
  valRN_ok hbb 21 x k hp (by have := mu_le (okB_of hbb) (place_okP hp); omega) hk
theorem wRX_ok {b : TCT cB} (hbb : bOk b = true) {x : TCT cSc} (hp : placeOk b x = true) {a : TCT cA} (ha : a ∈ actsF b (placeF x)) {k : Kn} (hk : RightK b k) : ∃ k', wR VRX b x a k = some (wF (Val b) b (placeF x) a, k') ∧ RightK b k' := by
  obtain ⟨q1, q2, _⟩ := afR_ok hbb hp ha
  obtain ⟨k', e, r⟩ := VRX_ok hbb q1 hk
  rw [q2] at e
  exact ⟨k', wR_ok hbb hp ha e, r⟩
end K9
end V
end Go.Proofs.Ytdblbofagfhlbaa
