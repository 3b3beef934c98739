/- The law EventFair: what the slots are like; its loops, plain. -/
import Derived.Test.YtgchccljmjmibaaFn
namespace Go.Proofs.Ytgchccljmjmibaa
open Go.RowKit
namespace V
namespace Ev
structure OrdOk (g : Nat) (o : List Int) : Prop where
  len : o.length = 2 ^ g
  rng : ∀ x ∈ o, 0 ≤ x ∧ x < (2 ^ g : Nat)
  nod : o.Nodup
  cmp : 1 ≤ g → ∀ i, i < 2 ^ g → getA o (par i) 0 = (2 ^ g : Nat) - 1 - getA o i 0
  all : ∀ a : Nat, a < 2 ^ g → (a : Int) ∈ o
  sds : ∀ i k j : Nat, i < 2 ^ g → k < 2 ^ g → j ≤ g → getA o i 0 < (2 ^ j : Nat) → getA o k 0 < (2 ^ j : Nat) → i ≠ k → rnd i k ≥ (g : Int) - j
theorem pow_pw {g : Nat} (h : g ≤ 6) : powB ((2 ^ g : Nat) : Int) = true := by
  have : ∀ g : Nat, g ≤ 6 → powB ((2 ^ g : Nat) : Int) = true := by decide +kernel
  exact this g h
theorem ord_all {g : Nat} (h : g ≤ 6) : OrdOk g (ordT (2 ^ g)) := by
  have hf := ordF_all h
  unfold ordF at hf
  simp only [Bool.and_eq_true, List.all_eq_true, List.mem_range, Bool.or_eq_true, decide_eq_true_eq, Bool.not_eq_true', Bool.and_eq_false_iff, decide_eq_false_iff_not, List.contains_iff_mem] at hf
  obtain ⟨h1, h2, h3, h4⟩ := hf
  obtain ⟨o1, o2⟩ := ord_ok (pow_pw h)
  rw [show Int.toNat ((2 ^ g : Nat) : Int) = 2 ^ g from rfl] at o1 o2
  refine ⟨by omega, o2, nodB_ok _ h1, fun hg i hi => ?_, h3, fun i k j hi hk hj a b c => ?_⟩
  · rcases h2 i hi with h | h
    · exact h
    · omega
  · rcases h4 i hi k hk j (by omega) with h | h
    · rcases h with h | h | h
      · exact absurd a h
      · exact absurd b h
      · exact absurd c h
    · exact h
/-- the slots of a draw -/
structure SlOk (N g : Nat) (r s : List Int) : Prop where
  len : s.length = 2 ^ g
  get : ∀ i (h : i < s.length), s[i] = slF N r (getA (ordT (2 ^ g)) i 0)
theorem sl_ok (N : Nat) (g : Nat) (hg : g ≤ 6) (r : List Int) : SlOk N g r ((ordT (2 ^ g)).map (slF N r)) := by
  have ho := ord_all hg
  refine ⟨by rw [List.length_map, ho.len], fun i h => ?_⟩
  rw [List.getElem_map, getA_lt (by simpa using h)]
theorem getA_mem {l : List Int} {i : Nat} (h : i < l.length) : getA l i 0 ∈ l := by rw [getA_lt h]; exact List.getElem_mem h
theorem nod_inj {l : List Int} (h : l.Nodup) {i j : Nat} (hi : i < l.length) (hj : j < l.length) (e : getA l i 0 = getA l j 0) : i = j := by
  rw [getA_lt hi, getA_lt hj] at e
  have hp := List.pairwise_iff_getElem.1 h
  rcases Nat.lt_trichotomy i j with hlt | heq | hgt
  · exact absurd e (hp i j hi hj hlt)
  · exact heq
  · exact absurd e.symm (hp j i hj hi hgt)
section
variable {N K g : Nat} {r s : List Int} (hN : N ≤ 64) (hg : g ≤ 6) (hr : RkOk N K r) (hs : SlOk N g r s) (h1 : N ≤ 2 ^ g) (h2 : 2 ^ g < 2 * N)
include hN hg hr hs h1
theorem sl_in (i : Nat) (hi : i < s.length) : s[i] = -1 ∧ (N : Int) ≤ getA (ordT (2 ^ g)) i 0 ∨ ∃ x : Nat, x < N ∧ getA (ordT (2 ^ g)) i 0 = x ∧ s[i] = getA r x 0 ∧ 0 ≤ s[i] ∧ s[i] < N := by
  have _hN := hN
  have _h1 := h1
  have ho := ord_all hg
  have hio : i < (ordT (2 ^ g)).length := by rw [ho.len, ← hs.len]; exact hi
  have hm := ho.rng _ (getA_mem hio)
  rw [hs.get i hi]
  unfold slF
  by_cases hx : getA (ordT (2 ^ g)) i 0 < (N : Int)
  · refine Or.inr ⟨(getA (ordT (2 ^ g)) i 0).toNat, by omega, by omega, ?_⟩
    rw [decide_eq_true hx]
    have := hr.rng _ (getA_mem (l := r) (i := (getA (ordT (2 ^ g)) i 0).toNat) (by rw [hr.len]; omega))
    exact ⟨rfl, this.1, this.2⟩
  · rw [decide_eq_false hx]
    exact Or.inl ⟨rfl, by omega⟩
theorem sl_inj (i j : Nat) (hi : i < s.length) (hj : j < s.length) (hne : s[i] ≠ -1) (e : s[i] = s[j]) : i = j := by
  have ho := ord_all hg
  rcases sl_in hN hg hr hs h1 i hi with h | ⟨x, x1, x2, x3, x4, x5⟩
  · exact absurd h.1 hne
  rcases sl_in hN hg hr hs h1 j hj with h | ⟨y, y1, y2, y3, y4, y5⟩
  · exact absurd (e.trans h.1) hne
  have hxy : x = y := nod_inj hr.nod (by rw [hr.len]; exact x1) (by rw [hr.len]; exact y1) (x3.symm.trans (e.trans y3))
  subst hxy
  exact nod_inj ho.nod (by rw [ho.len, ← hs.len]; exact hi) (by rw [ho.len, ← hs.len]; exact hj) (x2.trans y2.symm)
include h2
theorem sl_okD (hg1 : 1 ≤ g) : allI (okD s) 0 s = true := by
  have ho := ord_all hg
  rw [allI_iff]
  intro i hi
  rw [Nat.zero_add]
  have he : s.length % 2 = 0 := by
    rw [hs.len]
    obtain ⟨k, rfl⟩ : ∃ k, g = k + 1 := ⟨g - 1, by omega⟩
    rw [Nat.pow_succ]; omega
  have hpi : par i < s.length := par_lt he hi
  unfold okD
  rw [Bool.and_eq_true, Bool.and_eq_true, decide_eq_true_iff]
  rcases sl_in hN hg hr hs h1 i hi with ⟨e, h⟩ | ⟨x, x1, x2, x3, x4, x5⟩
  · refine ⟨by omega, by rw [e]; rfl, ?_⟩
    rw [e, getA_lt hpi]
    have hc := ho.cmp hg1 i (by rw [← hs.len]; exact hi)
    rcases sl_in hN hg hr hs h1 (par i) hpi with ⟨e2, h3⟩ | ⟨y, y1, y2, y3, y4, y5⟩
    · omega
    · rw [show (s[par i] != -1) = true by rw [bne_iff_ne]; omega]
      rfl
  · refine ⟨by omega, ?_, by rw [show (s[i] != -1) = true by rw [bne_iff_ne]; omega]; rfl⟩
    have : (s.take i).contains s[i] = false := by
      rw [Bool.eq_false_iff]
      intro h
      rw [List.contains_iff_mem, List.mem_take_iff_getElem] at h
      obtain ⟨j, hj, ej⟩ := h
      have := sl_inj hN hg hr hs h1 i j hi (by omega) (by omega) ej.symm
      omega
    rw [this]
    simp
theorem sl_dr (hg1 : 1 ≤ g) : drV s = 0 := by
  have hpos : 2 ≤ 2 ^ g := by
    obtain ⟨k, rfl⟩ : ∃ k, g = k + 1 := ⟨g - 1, by omega⟩
    have := Nat.two_pow_pos k
    rw [Nat.pow_succ]; omega
  have hle : 2 ^ g ≤ 2 ^ 6 := Nat.pow_le_pow_right (by omega) hg
  unfold drV
  rw [hs.len, decide_eq_false (show ¬ (((2 ^ g : Nat) : Int) > 64) by omega), pow_pw hg, decide_eq_false (show ¬ (((2 ^ g : Nat) : Int) < 2) by omega), sl_okD hN hg hr hs h1 h2 hg1]
  rfl
/-- seeds meet late -/
theorem sl_meet (hg1 : 1 ≤ g) (hKN : K ≤ N) (j a b : Nat) (hj : j ≤ g) (hjk : 2 ^ j ≤ K) (ha : a < 2 ^ j) (hb : b < a) : (meV s a b).2 = 0 ∧ (g : Int) - j ≤ (meV s a b).1 := by
  have ho := ord_all hg
  have hd := sl_dr hN hg hr hs h1 h2 hg1
  have key : ∀ c : Nat, c < 2 ^ j → ∃ i : Nat, fiV s c = i ∧ i < 2 ^ g ∧ getA (ordT (2 ^ g)) i 0 = c := by
    intro c hc
    obtain ⟨i0, hi0, e0⟩ := List.getElem_of_mem (ho.all c (by omega))
    have hi0s : i0 < s.length := by rw [hs.len, ← ho.len]; exact hi0
    have es : s[i0] = c := by
      rw [hs.get i0 hi0s, getA_lt hi0, e0]
      unfold slF
      rw [decide_eq_true (by omega), show Int.toNat (c : Int) = c by omega]
      exact hr.sds c (by omega)
    have hany : s.any (fiB (c : Int)) = true := List.any_eq_true.2 ⟨s[i0], List.getElem_mem hi0s, by unfold fiB; rw [es]; simp⟩
    obtain ⟨i, q1, q2, q3, q4⟩ := fiV_get (l := s) (p := (c : Int)) (by unfold fiV; rw [hany]; simp only [cond_true]; omega)
    have := sl_inj hN hg hr hs h1 i i0 q2 hi0s (by omega) (q3.trans es.symm)
    subst this
    exact ⟨i, q1, by rw [← hs.len]; exact q2, by rw [getA_lt hi0, e0]⟩
  obtain ⟨i, i1, i2, i3⟩ := key a ha
  obtain ⟨k, k1, k2, k3⟩ := key b (by omega)
  have hik : i ≠ k := fun e => by rw [e, k3] at i3; omega
  unfold meV
  rw [hd, i1, k1, decide_eq_false (show ¬ ((i : Int) < 0) by omega), decide_eq_false (show ¬ ((k : Int) < 0) by omega), show ((i : Int) == (k : Int)) = false by simp; omega]
  exact ⟨rfl, ho.sds i k j i2 k2 hj (by omega) (by omega) hik⟩
end
/-! loops -/
theorem a0_run (lo : List Int) (N K : Nat) (hN : N ≤ 64) (hK : K ≤ N) (hlo : ∀ x ∈ lo, 0 ≤ x ∧ x ≤ 65535) : ∀ (d i fuel : Nat) (l : List Int), i + d = N - K → l.length = i → (∀ x ∈ l, 0 ≤ x) → d < fuel →
    ∃ l', l'.length = N - K ∧ (∀ x ∈ l', 0 ≤ x) ∧ iter st_a0 fuel (hd_a0 lo N K l i) = some (ex_a0 N K l')
  | 0, i, fuel + 1, l, h, hl, h0, _ => by
    refine ⟨l, by omega, h0, iter_out ?_⟩
    show (sm_a0 lo N K l i).run = _
    unfold sm_a0
    rw [W64_id (n := (N : Int) - K) (by omega) (by omega), decide_eq_false (show ¬ ((i : Int) < (N : Int) - K) by omega)]
    rfl
  | d + 1, i, fuel + 1, l, h, hl, h0, hf => by
    have hpu : ∀ x, (pu_a0 lo N K l i x).run = some (.inl (hd_a0 lo N K (l ++ [x]) ((i + 1 : Nat) : Int))) := fun x => by
      unfold pu_a0
      rw [app_ok (by simp; omega) (by omega), W64_id (n := (i : Int) + 1) (by omega) (by omega)]
      rfl
    have key : ∃ x, 0 ≤ x ∧ (st_a0 (hd_a0 lo N K l i)).run = some (.inl (hd_a0 lo N K (l ++ [x]) ((i + 1 : Nat) : Int))) := by
      show ∃ x, 0 ≤ x ∧ (sm_a0 lo N K l i).run = _
      unfold sm_a0
      rw [W64_id (n := (N : Int) - K) (by omega) (by omega), decide_eq_true (show ((i : Int) < (N : Int) - K) by omega)]
      simp only [cond_true]
      by_cases hlt : i < lo.length
      · rw [decide_eq_true (show ((i : Int) < (lo.length : Int)) by omega), inN_ok (by omega), show Int.toNat (i : Int) = i by omega, getA_lt hlt]
        have := hlo _ (List.getElem_mem hlt)
        rw [W64_id (by omega) (by omega)]
        exact ⟨lo[i], this.1, hpu _⟩
      · rw [decide_eq_false (show ¬ ((i : Int) < (lo.length : Int)) by omega)]
        exact ⟨0, Int.le_refl _, hpu _⟩
    obtain ⟨x, hx, hrun⟩ := key
    obtain ⟨l', q1, q2, q3⟩ := a0_run lo N K hN hK hlo d (i + 1) fuel (l ++ [x]) (by omega) (by simp [hl]) (fun y hy => by
      rcases List.mem_append.1 hy with hy | hy
      · exact h0 y hy
      · rw [List.mem_singleton] at hy; rw [hy]; exact hx) (by omega)
    exact ⟨l', q1, q2, by rw [iter_in hrun]; exact q3⟩
theorem p2_ok : ∀ r : Nat, r ≤ 6 → p2 r = (2 ^ r : Nat) := by decide +kernel
theorem a1_run (n k : Int) (s : List Int) (e : List Bool) (b : Int) (g : Nat) (hg : g ≤ 6) (hs : s.length = 2 ^ g) : ∀ (d r fuel : Nat), r + d = g → d < fuel → iter st_a1 fuel (hd_a1 n k s e r b) = some (ex_a1 n k s e g b)
  | 0, r, fuel + 1, h, _ => by
    refine iter_out ?_
    have er : r = g := by omega
    subst er
    show (sm_a1 n k s e r b).run = _
    unfold sm_a1
    rw [decide_eq_true (show 0 ≤ (r : Int) by omega), p2_ok r hg, hs, decide_eq_false (by omega)]
    rfl
  | d + 1, r, fuel + 1, h, hf => by
    have hrun : (st_a1 (hd_a1 n k s e r b)).run = some (.inl (hd_a1 n k s e ((r + 1 : Nat) : Int) b)) := by
      show (sm_a1 n k s e r b).run = _
      unfold sm_a1
      have hlt : 2 ^ r < 2 ^ g := Nat.pow_lt_pow_right (by omega) (by omega)
      rw [decide_eq_true (show 0 ≤ (r : Int) by omega), p2_ok r (by omega), hs, decide_eq_true (by omega), W64_id (n := (r : Int) + 1) (by omega) (by omega)]
      rfl
    rw [iter_in hrun]
    exact a1_run n k s e b g hg hs d (r + 1) fuel (by omega) (by omega)
/-- who has been seen -/
def Seen (s : List Int) (i N : Nat) (e : List Bool) : Prop := e.length = N ∧ ∀ x : Nat, x < N → (getA e x false = true ↔ ∃ j, j < i ∧ s[j]? = some (x : Int))
theorem a2_run (N : Nat) (k r : Int) (s : List Int) (hN : N ≤ 64) (h64 : s.length ≤ 64) (hv : ∀ (i : Nat) (hi : i < s.length), s[i] = -1 ∨ 0 ≤ s[i] ∧ s[i] < N) (hu : ∀ (i j : Nat) (hi : i < s.length) (hj : j < s.length), s[i] ≠ -1 → s[i] = s[j] → i = j) :
    ∀ (d i fuel : Nat) (e : List Bool), i + d = s.length → Seen s i N e → d < fuel → iter st_a2 fuel (hd_a2 N k s e r (((s.take i).count (-1) : Nat) : Int) i) = some (ex_a2 N k s r ((s.count (-1) : Nat) : Int))
  | 0, i, fuel + 1, e, h, _, _ => by
    refine iter_out ?_
    show (sm_a2 N k s e r _ i).run = _
    unfold sm_a2
    rw [decide_eq_false (show ¬ ((i : Int) < (s.length : Int)) by omega), List.take_of_length_le (by omega)]
    rfl
  | d + 1, i, fuel + 1, e, h, he, hf => by
    have hi : i < s.length := by omega
    have hcl : (s.take i).count (-1) ≤ i := Nat.le_trans List.count_le_length (by simp; omega)
    have ht : (s.take (i + 1)).count (-1) = (s.take i).count (-1) + [s[i]].count (-1) := by rw [List.take_succ_eq_append_getElem hi, List.count_append]
    rcases hv i hi with hb | ⟨h0, h1⟩
    · have hrun : (st_a2 (hd_a2 N k s e r (((s.take i).count (-1) : Nat) : Int) i)).run = some (.inl (hd_a2 N k s e r (((s.take (i + 1)).count (-1) : Nat) : Int) ((i + 1 : Nat) : Int))) := by
        show (sm_a2 N k s e r (((s.take i).count (-1) : Nat) : Int) i).run = _
        unfold sm_a2
        rw [decide_eq_true (show ((i : Int) < (s.length : Int)) by omega), inN_ok (by omega), show Int.toNat (i : Int) = i by omega, getA_lt hi, hb]
        unfold x_a2
        rw [W64_id (n := (((s.take i).count (-1) : Nat) : Int) + 1) (by omega) (by omega), W64_id (n := (i : Int) + 1) (by omega) (by omega), ht, hb]
        rfl
      rw [iter_in hrun]
      refine a2_run N k r s hN h64 hv hu d (i + 1) fuel e (by omega) ⟨he.1, fun x hx => (he.2 x hx).trans ⟨fun ⟨j, hj, ej⟩ => ⟨j, by omega, ej⟩, fun ⟨j, hj, ej⟩ => ?_⟩⟩ (by omega)
      by_cases hji : j = i
      · subst hji
        rw [List.getElem?_eq_getElem hi, hb] at ej
        have := Option.some.inj ej
        omega
      · exact ⟨j, by omega, ej⟩
    · obtain ⟨x, hx⟩ := Int.eq_ofNat_of_zero_le h0
      have hxN : x < N := by omega
      have hne : s[i] ≠ -1 := by omega
      have hns : getA e x false = false := by
        rw [Bool.eq_false_iff]
        intro hc
        obtain ⟨j, hj, ej⟩ := (he.2 x hxN).1 hc
        have hjl : j < s.length := by omega
        rw [List.getElem?_eq_getElem hjl] at ej
        have := hu i j hi hjl hne (by rw [hx]; exact (Option.some.inj ej).symm)
        omega
      have hrun : (st_a2 (hd_a2 N k s e r (((s.take i).count (-1) : Nat) : Int) i)).run = some (.inl (hd_a2 N k s (setA e x true) r (((s.take (i + 1)).count (-1) : Nat) : Int) ((i + 1 : Nat) : Int))) := by
        show (sm_a2 N k s e r (((s.take i).count (-1) : Nat) : Int) i).run = _
        unfold sm_a2
        rw [decide_eq_true (show ((i : Int) < (s.length : Int)) by omega), inN_ok (by omega), show Int.toNat (i : Int) = i by omega, getA_lt hi]
        unfold x_a2
        have hl := he.1
        rw [show (s[i] == -1) = false by simpa using hne, decide_eq_false (show ¬ (s[i] < 0) by omega), decide_eq_false (show ¬ (s[i] ≥ (N : Int)) by omega), inO_ok (by omega), inO_ok (by omega), hx, show Int.toNat (x : Int) = x by omega, hns, W64_id (n := (i : Int) + 1) (by omega) (by omega), ht, show [s[i]].count (-1) = 0 from List.count_eq_zero.2 (by simp; exact fun h => hne h.symm)]
        rfl
      rw [iter_in hrun]
      refine a2_run N k r s hN h64 hv hu d (i + 1) fuel (setA e x true) (by omega) ⟨by rw [setA_eq, List.length_set]; exact he.1, fun y hy => ?_⟩ (by omega)
      have hl := he.1
      rw [setA_eq, getA_lt (by rw [List.length_set]; omega), List.getElem_set]
      by_cases hyx : x = y
      · rw [if_pos hyx]
        exact ⟨fun _ => ⟨i, by omega, by rw [List.getElem?_eq_getElem hi, hx, hyx]⟩, fun _ => rfl⟩
      · rw [if_neg hyx]
        have := he.2 y hy
        rw [getA_lt (by omega)] at this
        refine this.trans ⟨fun ⟨j, hj, ej⟩ => ⟨j, by omega, ej⟩, fun ⟨j, hj, ej⟩ => ?_⟩
        by_cases hji : j = i
        · subst hji
          rw [List.getElem?_eq_getElem hi, hx] at ej
          have := Option.some.inj ej
          omega
        · exact ⟨j, by omega, ej⟩
end Ev
end V
end Go.Proofs.Ytgchccljmjmibaa
