/- A segment passes a ring: what is kept of it side by side, and what is asked of all pairs of sides, come to one. Plain mathematics. -/
import Derived.Test.YthgmpjljlpacgaaQe
namespace Go.Proofs.Ythgmpjljlpacgaa
open Go.RowKit
namespace V
theorem frac_le {a b c d e f : Int} (hb : 0 < b) (hd : 0 < d) (hf : 0 < f) (h1 : a * d ≤ c * b) (h2 : c * f ≤ e * d) : a * f ≤ e * b := by
  have k1 : a * d * f ≤ c * b * f := Int.mul_le_mul_of_nonneg_right h1 (by omega)
  have k2 : c * f * b ≤ e * d * b := Int.mul_le_mul_of_nonneg_right h2 (by omega)
  have k3 : d * (a * f) ≤ d * (e * b) := by
    have e1 : a * d * f = d * (a * f) := by grind
    have e2 : c * b * f = c * f * b := by grind
    have e3 : e * d * b = d * (e * b) := by grind
    omega
  exact Int.le_of_mul_le_mul_left k3 hd
theorem frac_lt {a b c d e f : Int} (hb : 0 < b) (hd : 0 < d) (hf : 0 < f) (h1 : a * d ≤ c * b) (h2 : c * f < e * d) : a * f < e * b := by
  have k1 : a * d * f ≤ c * b * f := Int.mul_le_mul_of_nonneg_right h1 (by omega)
  have k2 : c * f * b < e * d * b := Int.mul_lt_mul_of_pos_right h2 hb
  have k3 : d * (a * f) < d * (e * b) := by
    have e1 : a * d * f = d * (a * f) := by grind
    have e2 : c * b * f = c * f * b := by grind
    have e3 : e * d * b = d * (e * b) := by grind
    omega
  exact Int.lt_of_mul_lt_mul_left k3 (by omega)
theorem frac_lt' {a b c d e f : Int} (hb : 0 < b) (hd : 0 < d) (hf : 0 < f) (h1 : a * d < c * b) (h2 : c * f ≤ e * d) : a * f < e * b := by
  have k1 : a * d * f < c * b * f := Int.mul_lt_mul_of_pos_right h1 hf
  have k2 : c * f * b ≤ e * d * b := Int.mul_le_mul_of_nonneg_right h2 (by omega)
  have k3 : d * (a * f) < d * (e * b) := by
    have e1 : a * d * f = d * (a * f) := by grind
    have e2 : c * b * f = c * f * b := by grind
    have e3 : e * d * b = d * (e * b) := by grind
    omega
  exact Int.lt_of_mul_lt_mul_left k3 (by omega)
abbrev XY := Int × Int
/-- of no side are both ends outside; and each part that one side begins at lies before each that another ends at -/
def Both (L : List XY) : Prop := ∀ p ∈ L, ¬ (p.1 ≤ 0 ∧ p.2 ≤ 0)
def Good (L : List XY) : Prop := Both L ∧ ∀ p ∈ L, ∀ q ∈ L, p.1 ≤ 0 → q.2 ≤ 0 → (0 - p.1) * (q.1 - q.2) < q.1 * (p.2 - p.1)
def foldP : List XY → PS → Option PS
  | [], s => some s
  | p :: r, s => (pSt p.1 p.2 s).bind (foldP r)
structure FI (L : List XY) (s : PS) : Prop where
  an : s.an = true ↔ L ≠ []
  nb : Both L
  o0 : s.o0 = true ↔ ∃ p ∈ L, p.1 ≤ 0
  o1 : s.o1 = true ↔ ∃ p ∈ L, p.2 ≤ 0
  l1 : s.o0 = true → ∃ p ∈ L, p.1 ≤ 0 ∧ s.f0 = 0 - p.1 ∧ s.f1 = p.2 - p.1
  l2 : s.o0 = true → ∀ p ∈ L, p.1 ≤ 0 → (0 - p.1) * s.f1 ≤ s.f0 * (p.2 - p.1)
  l3 : s.o0 = false → s.f0 = 0 ∧ s.f1 = 1
  u1 : s.o1 = true → ∃ p ∈ L, p.2 ≤ 0 ∧ s.t0 = p.1 ∧ s.t1 = p.1 - p.2
  u2 : s.o1 = true → ∀ p ∈ L, p.2 ≤ 0 → s.t0 * (p.1 - p.2) ≤ p.1 * s.t1
  u3 : s.o1 = false → s.t0 = 1 ∧ s.t1 = 1
theorem FI.f1pos {L : List XY} {s : PS} (I : FI L s) : 0 < s.f1 := by
  cases h : s.o0 with
  | true =>
    obtain ⟨p, hp, h1, _, h3⟩ := I.l1 h
    have := I.nb p hp
    omega
  | false => have := (I.l3 h).2; omega
theorem FI.t1pos {L : List XY} {s : PS} (I : FI L s) : 0 < s.t1 := by
  cases h : s.o1 with
  | true =>
    obtain ⟨p, hp, h1, _, h3⟩ := I.u1 h
    have := I.nb p hp
    omega
  | false => have := (I.u3 h).2; omega
theorem both_snoc {L : List XY} {x y : Int} (h : Both L) (k : ¬ (x ≤ 0 ∧ y ≤ 0)) : Both (L ++ [(x, y)]) := by
  intro p hp
  rcases List.mem_append.1 hp with hp | hp
  · exact h p hp
  · rw [List.mem_singleton] at hp; subst hp; exact k
theorem ex_snoc {L : List XY} {x y : Int} (P : XY → Prop) : (∃ p ∈ L ++ [(x, y)], P p) ↔ (∃ p ∈ L, P p) ∨ P (x, y) := by
  constructor
  · rintro ⟨p, hp, h⟩
    rcases List.mem_append.1 hp with hp | hp
    · exact .inl ⟨p, hp, h⟩
    · rw [List.mem_singleton] at hp; subst hp; exact .inr h
  · rintro (⟨p, hp, h⟩ | h)
    · exact ⟨p, List.mem_append.2 (.inl hp), h⟩
    · exact ⟨_, List.mem_append.2 (.inr (List.mem_singleton.2 rfl)), h⟩
theorem all_snoc {L : List XY} {x y : Int} (P : XY → Prop) (h : ∀ p ∈ L, P p) (k : P (x, y)) : ∀ p ∈ L ++ [(x, y)], P p := by
  intro p hp
  rcases List.mem_append.1 hp with hp | hp
  · exact h p hp
  · rw [List.mem_singleton] at hp; subst hp; exact k
theorem pSt_FI {L : List XY} {x y : Int} {s s' : PS} (I : FI L s) (h : pSt x y s = some s') : FI (L ++ [(x, y)]) s' := by
  have hne : L ++ [(x, y)] ≠ [] := by simp
  have f1 := I.f1pos
  have t1 := I.t1pos
  unfold pSt at h
  by_cases hx : x ≤ 0
  · by_cases hy : y ≤ 0
    · rw [decide_eq_true hx, decide_eq_true hy] at h; simp at h
    · rw [decide_eq_true hx, decide_eq_false hy] at h
      simp only [Bool.and_false, cond_false, cond_true, Option.some.injEq] at h
      have hb := both_snoc (x := x) (y := y) I.nb (by omega)
      have hyn : ¬ (x, y).2 ≤ 0 := hy
      have uo : s.o1 = true ↔ ∃ p ∈ L ++ [(x, y)], p.2 ≤ 0 := by rw [ex_snoc (fun p => p.2 ≤ 0), I.o1]; exact ⟨.inl, fun h => h.resolve_right hyn⟩
      have uu1 : s.o1 = true → ∃ p ∈ L ++ [(x, y)], p.2 ≤ 0 ∧ s.t0 = p.1 ∧ s.t1 = p.1 - p.2 := fun h => (ex_snoc _).2 (.inl (I.u1 h))
      have uu2 : s.o1 = true → ∀ p ∈ L ++ [(x, y)], p.2 ≤ 0 → s.t0 * (p.1 - p.2) ≤ p.1 * s.t1 := fun h => all_snoc (fun p => p.2 ≤ 0 → s.t0 * (p.1 - p.2) ≤ p.1 * s.t1) (I.u2 h) (fun k => absurd k hyn)
      cases hc : (!s.o0 || decide (s.f0 * (y - x) < (0 - x) * s.f1)) with
      | true =>
        rw [hc, cond_true] at h
        subst h
        refine ⟨⟨fun _ => hne, fun _ => rfl⟩, hb, ⟨fun _ => (ex_snoc _).2 (.inr hx), fun _ => rfl⟩, uo, fun _ => ⟨(x, y), List.mem_append.2 (.inr (List.mem_singleton.2 rfl)), hx, rfl, rfl⟩, fun _ => ?_, fun h => absurd (show true = false from h) (by decide), uu1, uu2, I.u3⟩
        refine all_snoc (fun p => p.1 ≤ 0 → (0 - p.1) * (y - x) ≤ (0 - x) * (p.2 - p.1)) ?_ (fun _ => Int.le_refl _)
        intro p hp hp1
        have hpb := I.nb p hp
        have ho : s.o0 = true := I.o0.2 ⟨p, hp, hp1⟩
        rw [ho] at hc
        have hlt : s.f0 * (y - x) < (0 - x) * s.f1 := by simpa using hc
        exact frac_le (show 0 < p.2 - p.1 by omega) f1 (show 0 < y - x by omega) (I.l2 ho p hp hp1) (Int.le_of_lt hlt)
      | false =>
        rw [hc, cond_false] at h
        subst h
        have ho : s.o0 = true := by cases h0 : s.o0 with
          | true => rfl
          | false => rw [h0] at hc; simp at hc
        rw [ho] at hc
        have hge : ¬ s.f0 * (y - x) < (0 - x) * s.f1 := by simpa using hc
        refine ⟨⟨fun _ => hne, fun _ => rfl⟩, hb, ⟨fun _ => (ex_snoc _).2 (.inr hx), fun _ => ho⟩, uo, fun h => (ex_snoc _).2 (.inl (I.l1 h)), fun h => ?_, fun h => absurd (ho.symm.trans h) (by decide), uu1, uu2, I.u3⟩
        exact all_snoc (fun p => p.1 ≤ 0 → (0 - p.1) * s.f1 ≤ s.f0 * (p.2 - p.1)) (I.l2 ho) (fun _ => Int.not_lt.1 hge)
  · have hxn : ¬ (x, y).1 ≤ 0 := hx
    have hb := both_snoc (x := x) (y := y) I.nb (by omega)
    have lo : s.o0 = true ↔ ∃ p ∈ L ++ [(x, y)], p.1 ≤ 0 := by rw [ex_snoc (fun p => p.1 ≤ 0), I.o0]; exact ⟨.inl, fun h => h.resolve_right hxn⟩
    have ll1 : s.o0 = true → ∃ p ∈ L ++ [(x, y)], p.1 ≤ 0 ∧ s.f0 = 0 - p.1 ∧ s.f1 = p.2 - p.1 := fun h => (ex_snoc _).2 (.inl (I.l1 h))
    have ll2 : s.o0 = true → ∀ p ∈ L ++ [(x, y)], p.1 ≤ 0 → (0 - p.1) * s.f1 ≤ s.f0 * (p.2 - p.1) := fun h => all_snoc (fun p => p.1 ≤ 0 → (0 - p.1) * s.f1 ≤ s.f0 * (p.2 - p.1)) (I.l2 h) (fun k => absurd k hxn)
    by_cases hy : y ≤ 0
    · rw [decide_eq_false hx, decide_eq_true hy] at h
      simp only [Bool.false_and, cond_false, cond_true, Option.some.injEq] at h
      cases hc : (!s.o1 || decide (x * s.t1 < s.t0 * (x - y))) with
      | true =>
        rw [hc, cond_true] at h
        subst h
        refine ⟨⟨fun _ => hne, fun _ => rfl⟩, hb, lo, ⟨fun _ => (ex_snoc _).2 (.inr hy), fun _ => rfl⟩, ll1, ll2, I.l3, fun _ => ⟨(x, y), List.mem_append.2 (.inr (List.mem_singleton.2 rfl)), hy, rfl, rfl⟩, fun _ => ?_, fun h => absurd (show true = false from h) (by decide)⟩
        refine all_snoc (fun p => p.2 ≤ 0 → x * (p.1 - p.2) ≤ p.1 * (x - y)) ?_ (fun _ => Int.le_refl _)
        intro p hp hp1
        have hpb := I.nb p hp
        have ho : s.o1 = true := I.o1.2 ⟨p, hp, hp1⟩
        rw [ho] at hc
        have hlt : x * s.t1 < s.t0 * (x - y) := by simpa using hc
        exact frac_le (show 0 < x - y by omega) t1 (show 0 < p.1 - p.2 by omega) (Int.le_of_lt hlt) (I.u2 ho p hp hp1)
      | false =>
        rw [hc, cond_false] at h
        subst h
        have ho : s.o1 = true := by cases h0 : s.o1 with
          | true => rfl
          | false => rw [h0] at hc; simp at hc
        rw [ho] at hc
        have hge : ¬ x * s.t1 < s.t0 * (x - y) := by simpa using hc
        refine ⟨⟨fun _ => hne, fun _ => rfl⟩, hb, lo, ⟨fun _ => (ex_snoc _).2 (.inr hy), fun _ => ho⟩, ll1, ll2, I.l3, fun h => (ex_snoc _).2 (.inl (I.u1 h)), fun h => ?_, fun h => absurd (ho.symm.trans h) (by decide)⟩
        exact all_snoc (fun p => p.2 ≤ 0 → s.t0 * (p.1 - p.2) ≤ p.1 * s.t1) (I.u2 ho) (fun _ => Int.not_lt.1 hge)
    · rw [decide_eq_false hx, decide_eq_false hy] at h
      simp only [Bool.false_and, cond_false, Option.some.injEq] at h
      subst h
      have hyn : ¬ (x, y).2 ≤ 0 := hy
      exact ⟨⟨fun _ => hne, fun _ => rfl⟩, hb, lo, by rw [ex_snoc (fun p => p.2 ≤ 0), ← I.o1]; exact ⟨.inl, fun h => h.resolve_right hyn⟩, ll1, ll2, I.l3, fun h => (ex_snoc _).2 (.inl (I.u1 h)), fun h => all_snoc (fun p => p.2 ≤ 0 → s.t0 * (p.1 - p.2) ≤ p.1 * s.t1) (I.u2 h) (fun k => absurd k hyn), I.u3⟩
theorem foldP_FI : ∀ (r L : List XY) (s s' : PS), FI L s → foldP r s = some s' → FI (L ++ r) s'
  | [], L, s, s', I, h => by simp only [foldP, Option.some.injEq] at h; subst h; rw [List.append_nil]; exact I
  | (x, y) :: r, L, s, s', I, h => by
    simp only [foldP] at h
    cases h1 : pSt x y s with
    | none => rw [h1] at h; simp at h
    | some t =>
      rw [h1, Option.bind_some] at h
      have := foldP_FI r (L ++ [(x, y)]) t s' (pSt_FI I h1) h
      rwa [List.append_assoc] at this
theorem foldP_none : ∀ (r : List XY) (s : PS), foldP r s = none → ¬ Both r
  | [], s, h => by simp [foldP] at h
  | (x, y) :: r, s, h => by
    simp only [foldP] at h
    intro hb
    cases h1 : pSt x y s with
    | none =>
      have hxy := hb (x, y) (by simp)
      unfold pSt at h1
      by_cases hx : x ≤ 0
      · by_cases hy : y ≤ 0
        · exact hxy ⟨hx, hy⟩
        · rw [decide_eq_true hx, decide_eq_false hy] at h1; simp at h1
      · by_cases hy : y ≤ 0
        · rw [decide_eq_false hx, decide_eq_true hy] at h1; simp at h1
        · rw [decide_eq_false hx, decide_eq_false hy] at h1; simp at h1
    | some t =>
      rw [h1, Option.bind_some] at h
      exact foldP_none r t h (fun p hp => hb p (List.mem_cons_of_mem _ hp))
theorem ps0_FI : FI [] ps0 := ⟨by simp [ps0], (fun p hp => nomatch hp), by simp [ps0], by simp [ps0], fun h => absurd h (by decide), fun h => absurd h (by decide), fun _ => ⟨rfl, rfl⟩, fun h => absurd h (by decide), fun h => absurd h (by decide), fun _ => ⟨rfl, rfl⟩⟩
theorem endF_good {L : List XY} {s : PS} (I : FI L s) : endF s = true ↔ L ≠ [] ∧ Good L := by
  have f1 := I.f1pos
  have t1 := I.t1pos
  unfold endF
  rw [Bool.and_eq_true, I.an]
  refine and_congr_right fun _ => ?_
  cases h0 : s.o0 with
  | true =>
    cases h1 : s.o1 with
    | true =>
      obtain ⟨p, hp, p1, p2, p3⟩ := I.l1 h0
      obtain ⟨q, hq, q1, q2, q3⟩ := I.u1 h1
      constructor
      · intro h
        have hlt : s.f0 * s.t1 < s.t0 * s.f1 := by simpa using h
        refine ⟨I.nb, fun p' hp' q' hq' hp1 hq1 => ?_⟩
        have b1 := I.nb p' hp'
        have b2 := I.nb q' hq'
        have a1 := I.l2 h0 p' hp' hp1
        have a2 := I.u2 h1 q' hq' hq1
        have k := frac_lt (a := 0 - p'.1) (b := p'.2 - p'.1) (c := s.f0) (d := s.f1) (e := s.t0) (f := s.t1) (by omega) f1 t1 a1 hlt
        exact frac_lt' (a := 0 - p'.1) (b := p'.2 - p'.1) (c := s.t0) (d := s.t1) (e := q'.1) (f := q'.1 - q'.2) (by omega) t1 (by omega) k a2
      · intro h
        have := h.2 p hp q hq p1 q1
        rw [← p2, ← p3, ← q3] at this
        rw [q2, decide_eq_true this]; rfl
    | false =>
      obtain ⟨p, hp, p1, p2, p3⟩ := I.l1 h0
      obtain ⟨u1, u2⟩ := I.u3 h1
      have b1 := I.nb p hp
      constructor
      · intro _
        refine ⟨I.nb, fun p' hp' q' hq' hp1 hq1 => ?_⟩
        have := I.o1.2 ⟨q', hq', hq1⟩
        rw [h1] at this; exact absurd this (by decide)
      · intro _
        rw [u1, u2, decide_eq_true (show s.f0 * 1 < 1 * s.f1 by omega)]; rfl
  | false =>
    obtain ⟨l1, l2⟩ := I.l3 h0
    constructor
    · intro _
      refine ⟨I.nb, fun p' hp' q' hq' hp1 hq1 => ?_⟩
      have := I.o0.2 ⟨p', hp', hp1⟩
      rw [h0] at this; exact absurd this (by decide)
    · intro _
      cases h1 : s.o1 with
      | false => simp
      | true =>
        obtain ⟨q, hq, q1, q2, q3⟩ := I.u1 h1
        have b2 := I.nb q hq
        rw [l1, l2, decide_eq_true (show 0 * s.t1 < s.t0 * 1 by omega)]; rfl
theorem pass_good (L : List XY) : (okP (foldP L ps0) && endF (getP (foldP L ps0))) = true ↔ L ≠ [] ∧ Good L := by
  cases h : foldP L ps0 with
  | none =>
    constructor
    · intro k; exact absurd k (by decide)
    · intro k; exact absurd k.2.1 (foldP_none L ps0 h)
  | some s =>
    have I := foldP_FI L [] ps0 s ps0_FI h
    rw [List.nil_append] at I
    show (true && endF s) = true ↔ _
    rw [Bool.true_and]
    exact endF_good I
end V
end Go.Proofs.Ythgmpjljlpacgaa
