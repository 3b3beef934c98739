/- The value of a place: plain facts. -/
import Derived.Test.YtialgmhhkbdegaaGreatGj
import Derived.Test.YtialgmhhkbdegaaGreatHb
namespace Go.Proofs.YtialgmhhkbdegaaGreat
open Go.RowKit
namespace V
def bW (b : TCT cB) : Int := b.1
def bL (b : TCT cB) : Int := b.2.1
def bN (b : TCT cB) : Int := (b.2.2.1.length : Int)
def pA (p : TCT cP) : Int := p.1
def pH (p : TCT cP) : Int := p.2.1
def pN (p : TCT cP) : Int := p.2.2.1
def pB (p : TCT cP) (i : Nat) : Int := bif Nat.beq i 0 then p.2.2.2.1.1 else p.2.2.2.1.2.1
def pD (p : TCT cP) (i : Nat) : Bool := bif Nat.beq i 0 then p.2.2.2.2.1.1 else p.2.2.2.2.1.2.1
def okP (b : TCT cB) (p : TCT cP) : Bool := cellOk b (pA p) && (decide (0 ≤ pH p ∧ pH p ≤ bN b ∧ 0 ≤ pN p ∧ pN p ≤ 2) && ((decide (pN p ≤ 0) || cellOk b (pB p 0)) && (decide (pN p ≤ 1) || cellOk b (pB p 1))))
structure OkP (b : TCT cB) (p : TCT cP) : Prop where
  a : 0 ≤ pA p ∧ pA p < cellsF b
  h : 0 ≤ pH p ∧ pH p ≤ bN b
  n : 0 ≤ pN p ∧ pN p ≤ 2
  c0 : 0 < pN p → 0 ≤ pB p 0 ∧ pB p 0 < cellsF b
  c1 : 1 < pN p → 0 ≤ pB p 1 ∧ pB p 1 < cellsF b
theorem okP_iff {b : TCT cB} {p : TCT cP} : okP b p = true ↔ OkP b p := by
  unfold okP cellOk
  simp only [Bool.and_eq_true_iff, Bool.or_eq_true_iff, decide_eq_true_eq]
  constructor
  · rintro ⟨h1, h2, h3, h4⟩
    exact ⟨h1, ⟨h2.1, h2.2.1⟩, h2.2.2, fun h => h3.resolve_left (by omega), fun h => h4.resolve_left (by omega)⟩
  · rintro ⟨h1, h2, h3, h4, h5⟩
    refine ⟨h1, ⟨h2.1, h2.2, h3.1, h3.2⟩, ?_, ?_⟩
    · by_cases h : pN p ≤ 0
      · exact .inl h
      · exact .inr (h4 (by omega))
    · by_cases h : pN p ≤ 1
      · exact .inl h
      · exact .inr (h5 (by omega))
structure OkB (b : TCT cB) : Prop where
  w : 1 ≤ bW b ∧ bW b ≤ 3
  l : 1 ≤ bL b ∧ bL b ≤ 3
  n : 1 ≤ bN b ∧ bN b ≤ 6
  c : cellsF b = bW b * bL b ∧ 1 ≤ cellsF b ∧ cellsF b ≤ 9
  hs : ∀ x ∈ (b.2.2.1 : List Int), 0 ≤ x ∧ x < cellsF b
  run : runsOk b.2.2.2.1 = true
  hit : runsOk b.2.2.2.2.1 = true
theorem cells_eq {b : TCT cB} {w l : Int} (hw : bW b = w) (hl : bL b = l) (h1 : 1 ≤ w ∧ w ≤ 3) (h2 : 1 ≤ l ∧ l ≤ 3) : cellsF b = bW b * bL b ∧ 1 ≤ cellsF b ∧ cellsF b ≤ 9 := by
  have e : cellsF b = W64 (bW b * bL b) := rfl
  rw [e, hw, hl]
  have k1 : w * l ≤ 3 * 3 := mul_le2 (by omega) h1.2 (by omega) h2.2
  have k2 : 1 * 1 ≤ w * l := mul_le2 (by omega) h1.1 (by omega) h2.1
  rw [W64_id (by omega) (by omega)]
  exact ⟨rfl, by omega, by omega⟩
theorem okB_of {b : TCT cB} (h : bOk b = true) : OkB b := by
  unfold bOk at h
  simp only [Bool.and_eq_true_iff] at h
  obtain ⟨h1, h2, h3, h4⟩ := h
  have h1 : 1 ≤ bW b ∧ bW b ≤ 3 ∧ 1 ≤ bL b ∧ bL b ≤ 3 ∧ 1 ≤ bN b ∧ bN b ≤ 6 := of_decide_eq_true h1
  have hc := cells_eq (b := b) rfl rfl ⟨h1.1, h1.2.1⟩ ⟨h1.2.2.1, h1.2.2.2.1⟩
  refine ⟨⟨h1.1, h1.2.1⟩, ⟨h1.2.2.1, h1.2.2.2.1⟩, h1.2.2.2.2, hc, fun x hx => ?_, h3, h4⟩
  exact of_decide_eq_true (List.all_eq_true.1 h2 x hx)
/-! distances -/
theorem away_le {b : TCT cB} (hb : OkB b) {c d : Int} (hc : 0 ≤ c ∧ c < cellsF b) (hd : 0 ≤ d ∧ d < cellsF b) : 0 ≤ awayF b c d ∧ awayF b c d ≤ 2 := by
  have e : awayF b c d = max (max (max (W64 (Int.tmod c (bW b) - Int.tmod d (bW b))) (W64 (0 - W64 (Int.tmod c (bW b) - Int.tmod d (bW b))))) (W64 (W64 (Int.tdiv c (bW b)) - W64 (Int.tdiv d (bW b))))) (W64 (0 - W64 (W64 (Int.tdiv c (bW b)) - W64 (Int.tdiv d (bW b))))) := rfl
  rw [e]
  obtain ⟨hw, hl, _, hcc, _, _, _⟩ := hb
  generalize bW b = w at *
  generalize bL b = l at *
  generalize cellsF b = t at *
  rw [Int.tmod_eq_emod_of_nonneg hc.1, Int.tmod_eq_emod_of_nonneg hd.1, Int.tdiv_eq_ediv_of_nonneg hc.1, Int.tdiv_eq_ediv_of_nonneg hd.1]
  have a1 := Int.emod_nonneg c (show w ≠ 0 by omega)
  have a2 := Int.emod_lt_of_pos c (show 0 < w by omega)
  have b1 := Int.emod_nonneg d (show w ≠ 0 by omega)
  have b2 := Int.emod_lt_of_pos d (show 0 < w by omega)
  have c1 : 0 ≤ c / w := Int.ediv_nonneg hc.1 (by omega)
  have d1 : 0 ≤ d / w := Int.ediv_nonneg hd.1 (by omega)
  have c2 : c / w < l := Int.ediv_lt_of_lt_mul (by omega) (by rw [Int.mul_comm]; omega)
  have d2 : d / w < l := Int.ediv_lt_of_lt_mul (by omega) (by rw [Int.mul_comm]; omega)
  generalize c % w = c' at *
  generalize d % w = d' at *
  generalize c / w = c'' at *
  generalize d / w = d'' at *
  rw [W64_id (n := c' - d') (by omega) (by omega), W64_id (n := 0 - (c' - d')) (by omega) (by omega), W64_id (n := c'') (by omega) (by omega), W64_id (n := d'') (by omega) (by omega), W64_id (n := c'' - d'') (by omega) (by omega), W64_id (n := 0 - (c'' - d'')) (by omega) (by omega)]
  omega
theorem pickO_some {t : TCT (.st [cC, cC, cC])} (ht : runsOk t = true) {n : Int} (h : 0 ≤ n ∧ n ≤ 2) : ∃ c, pickO t n = some c ∧ validC (un c) = true := by
  unfold runsOk at ht
  simp only [Bool.and_eq_true_iff] at ht
  unfold pickO
  by_cases h0 : n = 0
  · exact ⟨t.1, by rw [decide_eq_true h0]; rfl, ht.1⟩
  by_cases h1 : n = 1
  · exact ⟨t.2.1, by rw [decide_eq_false h0, decide_eq_true h1]; rfl, ht.2.1⟩
  · exact ⟨t.2.2.1, by rw [decide_eq_false h0, decide_eq_false h1, decide_eq_true (show n = 2 by omega)]; rfl, ht.2.2⟩
/-! legal acts -/
def aK (a : TCT cA) : Int := a.1
def aI (a : TCT cA) : Int := a.2.1
def aS (a : TCT cA) : Int := a.2.2.1
def aT (a : TCT cA) : Int := a.2.2.2.1
structure Roq (b : TCT cB) (p : TCT cP) (a : TCT cA) : Prop where
  k : aK a = 2
  i : aI a = 0 ∧ 0 < pN p ∧ pD p 0 = false ∨ aI a = 1 ∧ 1 < pN p ∧ pD p 1 = false
  s : 0 ≤ aS a ∧ aS a < cellsF b
  t : 0 ≤ aT a ∧ aT a < cellsF b
def Legal (b : TCT cB) (p : TCT cP) (a : TCT cA) : Prop := pH p < bN b ∧ (a = runA ∨ Roq b p a)
theorem sq_eq {b : TCT cB} (hb : OkB b) : sq b = cellsF b * cellsF b ∧ 1 ≤ sq b ∧ sq b ≤ 81 := by
  have h := hb.c.2
  have k1 : cellsF b * cellsF b ≤ 9 * 9 := mul_le2 (by omega) h.2 (by omega) h.2
  have k2 : 1 * 1 ≤ cellsF b * cellsF b := mul_le2 (by omega) h.1 (by omega) h.1
  unfold sq
  rw [W64_id (by omega) (by omega)]
  exact ⟨rfl, by omega, by omega⟩
theorem okN_ok {b : TCT cB} (hb : OkB b) {n : Int} (hn : n ≤ 2) : okN b n 0 = true := by
  unfold okN okK
  have h := sq_eq hb
  have hc := hb.c.2
  rw [decide_eq_true (show (0 : Int) = 0 ∧ n ≤ 2 from ⟨rfl, hn⟩), decide_eq_true (show (0 : Int) = 0 ∧ 0 ≤ sq b ∧ sq b ≤ 1000 from ⟨rfl, by omega, by omega⟩)]
  simp
  omega
theorem roq_ok {b : TCT cB} (hb : OkB b) {i k : Int} (hk : 0 ≤ k ∧ k < sq b) : aK (roq b i k) = 2 ∧ aI (roq b i k) = i ∧ aS (roq b i k) = k / cellsF b ∧ aT (roq b i k) = k % cellsF b ∧ (0 ≤ k / cellsF b ∧ k / cellsF b < cellsF b) ∧ (0 ≤ k % cellsF b ∧ k % cellsF b < cellsF b) := by
  have hc := hb.c.2
  have h := sq_eq hb
  have e3 : aS (roq b i k) = W64 (Int.tdiv k (cellsF b)) := rfl
  have e4 : aT (roq b i k) = Int.tmod k (cellsF b) := rfl
  have c1 : 0 ≤ k / cellsF b := Int.ediv_nonneg hk.1 (by omega)
  have c2 : k / cellsF b < cellsF b := Int.ediv_lt_of_lt_mul (by omega) (by omega)
  rw [e3, e4, Int.tdiv_eq_ediv_of_nonneg hk.1, Int.tmod_eq_emod_of_nonneg hk.1, W64_id (by omega) (by omega)]
  exact ⟨rfl, rfl, rfl, rfl, ⟨c1, c2⟩, Int.emod_nonneg _ (by omega), Int.emod_lt_of_pos _ (by omega)⟩
theorem actsF_eq (b : TCT cB) (p : TCT cP) : actsF b p = bif pH p == bN b then [] else runA :: rowsA b (cellsP p) (pN p) := rfl
theorem deadI_eq (p : TCT cP) (i : Nat) : deadI (cellsP p) i = pD p i := rfl
theorem legal_of {b : TCT cB} (hb : OkB b) {p : TCT cP} (hp : OkP b p) {a : TCT cA} (h : a ∈ actsF b p) : Legal b p a := by
  rw [actsF_eq] at h
  cases he : pH p == bN b with
  | true => rw [he] at h; cases h
  | false =>
    rw [he, cond_false] at h
    have hlt : pH p < bN b := by
      have : pH p ≠ bN b := by simpa using he
      have := hp.h
      omega
    refine ⟨hlt, ?_⟩
    rcases List.mem_cons.1 h with h | h
    · exact .inl h
    · unfold rowsA at h
      obtain ⟨i, hi, h⟩ := List.mem_flatMap.1 h
      rw [List.mem_range] at hi
      unfold rowA at h
      rw [deadI_eq] at h
      cases hd : pD p i with
      | true => rw [hd] at h; cases h
      | false =>
        rw [hd, cond_false] at h
        unfold roqs at h
        obtain ⟨k, hk, rfl⟩ := List.mem_map.1 h
        rw [List.mem_range] at hk
        have h := sq_eq hb
        obtain ⟨k1, k2, k3, k4, k5, k6⟩ := roq_ok hb (i := (i : Int)) (k := (k : Int)) ⟨by omega, by omega⟩
        have hn := hp.n
        refine .inr ⟨k1, ?_, by rw [k3]; exact k5, by rw [k4]; exact k6⟩
        rw [k2]
        match i, hi, hd with
        | 0, hi, hd => exact .inl ⟨rfl, by omega, hd⟩
        | 1, hi, hd => exact .inr ⟨rfl, by omega, hd⟩
        | i + 2, hi, _ => omega
/-! what an act comes to -/
def cnt1 (c : Prop) [Decidable c] : Nat := if c then 1 else 0
def alive (p : TCT cP) : Nat := cnt1 (0 < pN p ∧ pD p 0 = false) + cnt1 (1 < pN p ∧ pD p 1 = false)
def mu (b : TCT cB) (p : TCT cP) : Nat := 3 * (bN b - pH p).toNat + alive p
theorem cnt1_le (c : Prop) [Decidable c] : cnt1 c ≤ 1 := by unfold cnt1; split <;> omega
theorem cnt1_pos {c : Prop} [Decidable c] (h : c) : cnt1 c = 1 := by unfold cnt1; rw [if_pos h]
theorem cnt1_neg {c : Prop} [Decidable c] (h : ¬c) : cnt1 c = 0 := by unfold cnt1; rw [if_neg h]
theorem alive_le (p : TCT cP) : alive p ≤ 2 := by
  have := cnt1_le (0 < pN p ∧ pD p 0 = false)
  have := cnt1_le (1 < pN p ∧ pD p 1 = false)
  unfold alive
  omega
theorem mu_le {b : TCT cB} (hb : OkB b) {p : TCT cP} (hp : OkP b p) : mu b p ≤ 20 := by
  have := alive_le p
  have := hb.n
  have := hp.h
  unfold mu
  omega
theorem after_run {b : TCT cB} (hb : OkB b) {p : TCT cP} (hp : OkP b p) (h : pH p < bN b) : actOk b p runA = true ∧ OkP b (afterF b p runA) ∧ mu b (afterF b p runA) < mu b p ∧ pH (afterF b p runA) = pH p + 1 := by
  have hh := hp.h
  have hbn := hb.n
  have e1 : pA (afterF b p runA) = hoopAt b p := rfl
  have e2 : pH (afterF b p runA) = W64 (pH p + 1) := rfl
  have e2' : pH (afterF b p runA) = pH p + 1 := by rw [e2, W64_id (by omega) (by omega)]
  have e3 : pN (afterF b p runA) = pN p := rfl
  have e4 : pB (afterF b p runA) 0 = pB p 0 := rfl
  have e5 : pB (afterF b p runA) 1 = pB p 1 := rfl
  have hlt : (pH p).toNat < (b.2.2.1 : List Int).length := by
    have : bN b = ((b.2.2.1 : List Int).length : Int) := rfl
    omega
  have hc : 0 ≤ hoopAt b p ∧ hoopAt b p < cellsF b := by
    have e : hoopAt b p = getA (b.2.2.1 : List Int) (pH p).toNat (dflt cI) := rfl
    rw [e, getA_lt hlt]
    exact hb.hs _ (List.getElem_mem hlt)
  refine ⟨decide_eq_true ⟨hh.1, h⟩, ⟨by rw [e1]; exact hc, by rw [e2']; omega, by rw [e3]; exact hp.n, by rw [e3, e4]; exact hp.c0, by rw [e3, e5]; exact hp.c1⟩, ?_, e2'⟩
  have := alive_le (afterF b p runA)
  unfold mu
  rw [e2']
  omega
theorem after_roq {b : TCT cB} {p : TCT cP} (hp : OkP b p) {a : TCT cA} (ha : Roq b p a) : actOk b p a = true ∧ OkP b (afterF b p a) ∧ mu b (afterF b p a) < mu b p ∧ pH (afterF b p a) = pH p := by
  have hk : aK a = 2 := ha.k
  have hk1 : (a.1 == 1) = false := by
    show (aK a == 1) = false
    rw [hk]; rfl
  have hk2 : (a.1 != 1) = true := by
    show (aK a != 1) = true
    rw [hk]; rfl
  have e1 : pA (afterF b p a) = aT a := by
    show (bif a.1 == 1 then hoopAt b p else aT a) = aT a
    rw [hk1]; rfl
  have e2 : pH (afterF b p a) = pH p := by
    show (bif a.1 == 1 then W64 (pH p + 1) else pH p) = pH p
    rw [hk1]; rfl
  have e3 : pN (afterF b p a) = pN p := rfl
  have e4 : pB (afterF b p a) 0 = bif decide (aI a = 0) then aS a else pB p 0 := by
    show (bif a.1 != 1 && decide (aI a = 0) then aS a else pB p 0) = _
    rw [hk2, Bool.true_and]
  have e5 : pB (afterF b p a) 1 = bif decide (aI a = 1) then aS a else pB p 1 := by
    show (bif a.1 != 1 && decide (aI a = 1) then aS a else pB p 1) = _
    rw [hk2, Bool.true_and]
  have e6 : pD (afterF b p a) 0 = bif decide (aI a = 0) then true else pD p 0 := by
    show (bif a.1 == 1 then false else bif decide (aI a = 0) then true else pD p 0) = _
    rw [hk1, cond_false]
  have e7 : pD (afterF b p a) 1 = bif decide (aI a = 1) then true else pD p 1 := by
    show (bif a.1 == 1 then false else bif decide (aI a = 1) then true else pD p 1) = _
    rw [hk1, cond_false]
  have hA : actOk b p a = (decide (aI a = 0) || decide (aI a = 1)) := by
    unfold actOk
    rw [hk1]; rfl
  rcases ha.i with ⟨hi, hn, hd⟩ | ⟨hi, hn, hd⟩
  · rw [hi] at e4 e5 e6 e7 hA
    refine ⟨by rw [hA]; rfl, ⟨by rw [e1]; exact ha.t, by rw [e2]; exact hp.h, by rw [e3]; exact hp.n, fun _ => by rw [e4]; exact ha.s, fun h => by rw [e5]; exact hp.c1 h⟩, ?_, e2⟩
    have q1 : alive (afterF b p a) = cnt1 (1 < pN p ∧ pD p 1 = false) := by
      unfold alive
      rw [e3, e6, e7, cnt1_neg (by rintro ⟨_, h⟩; cases h), Nat.zero_add]
      rfl
    have q2 : alive p = 1 + cnt1 (1 < pN p ∧ pD p 1 = false) := by
      unfold alive
      rw [cnt1_pos ⟨hn, hd⟩]
    unfold mu
    rw [e2]
    omega
  · rw [hi] at e4 e5 e6 e7 hA
    refine ⟨by rw [hA]; rfl, ⟨by rw [e1]; exact ha.t, by rw [e2]; exact hp.h, by rw [e3]; exact hp.n, fun h => by rw [e4]; exact hp.c0 h, fun _ => by rw [e5]; exact ha.s⟩, ?_, e2⟩
    have q1 : alive (afterF b p a) = cnt1 (0 < pN p ∧ pD p 0 = false) := by
      unfold alive
      rw [e3, e6, e7, cnt1_neg (c := 1 < pN p ∧ _) (by rintro ⟨_, h⟩; cases h), Nat.add_zero]
      rfl
    have q2 : alive p = cnt1 (0 < pN p ∧ pD p 0 = false) + 1 := by
      unfold alive
      rw [cnt1_pos (c := 1 < pN p ∧ _) ⟨hn, hd⟩]
    unfold mu
    rw [e2]
    omega
/-- what a legal act comes to -/
theorem legal_step {b : TCT cB} (hb : OkB b) {p : TCT cP} (hp : OkP b p) {a : TCT cA} (h : Legal b p a) :
    actOk b p a = true ∧ OkP b (afterF b p a) ∧ mu b (afterF b p a) < mu b p ∧ ∃ c, chanceO b p a = some c ∧ validC (un c) = true := by
  have hw : (b.1 != 0) = true := by
    show (bW b != 0) = true
    have := hb.w
    simp; omega
  rcases h.2 with rfl | ha
  · obtain ⟨h1, h2, h3, _⟩ := after_run hb hp h.1
    refine ⟨h1, h2, h3, ?_⟩
    have e : chanceO b p runA = bif b.1 != 0 then bif runOk b p then pickO b.2.2.2.1 (awayF b (pA p) (hoopAt b p)) else none else none := rfl
    have hr : runOk b p = true := decide_eq_true ⟨hp.h.1, h.1⟩
    rw [e, hw, hr]
    have e1 : pA (afterF b p runA) = hoopAt b p := rfl
    exact pickO_some hb.run (away_le hb hp.a (by rw [← e1]; exact h2.a))
  · obtain ⟨h1, h2, h3, _⟩ := after_roq hp ha
    refine ⟨h1, h2, h3, ?_⟩
    have hk1 : (a.1 == 1) = false := by
      show (aK a == 1) = false
      rw [ha.k]; rfl
    have e : chanceO b p a = bif b.1 != 0 then bif a.1 == 1 then bif runOk b p then pickO b.2.2.2.1 (awayF b (pA p) (hoopAt b p)) else none else bif decide (aI a = 0) then pickO b.2.2.2.2.1 (awayF b (pA p) (pB p 0)) else bif decide (aI a = 1) then pickO b.2.2.2.2.1 (awayF b (pA p) (pB p 1)) else none else none := rfl
    rw [e, hw, hk1]
    rcases ha.i with ⟨hi, hn, hd⟩ | ⟨hi, hn, hd⟩
    · rw [hi]
      exact pickO_some hb.hit (away_le hb hp.a (hp.c0 hn))
    · rw [hi]
      exact pickO_some hb.hit (away_le hb hp.a (hp.c1 hn))
end V
end Go.Proofs.YtialgmhhkbdegaaGreat
