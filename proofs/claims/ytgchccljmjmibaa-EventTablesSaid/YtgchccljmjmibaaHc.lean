/- Chapter 11: EventTables: who comes first of two; the last loop. -/
import Derived.Test.YtgchccljmjmibaaHb
namespace Go.Proofs.Ytgchccljmjmibaa
open Go.RowKit
namespace V
namespace Ev
theorem first_of_two (n : Int) (m : cMp) (t : Rows) (r o : Row) (hr : r ∈ t) (ho : o ∈ t) (hp : rP r ≠ rP o) (hw : rW r = rW o) (hc : t.countP (fun x => rW x == rW r) = 2) (s : TCT cSc) (hs : m (numW n (rP r) (rP o)) = some s) (hl : ltV (t, n, m) o r = false) : ((s.2.2.1 == 0) == decide (rP r < rP o)) = true := by
  cases hb : (s.2.2.1 == 0) == decide (rP r < rP o) with
  | true => rfl
  | false =>
    exfalso
    have hro : r ≠ o := fun e => hp (by rw [e])
    have hd : decide (rP o < rP r) = !decide (rP r < rP o) := by
      by_cases e : rP r < rP o
      · rw [decide_eq_true e, decide_eq_false (by omega)]; rfl
      · rw [decide_eq_false e, decide_eq_true (by omega)]; rfl
    have w1 : wonB n m (rP r) (rP o) = false := by
      unfold wonB
      rw [hs]
      simp only [or0, Option.getD_some, hb, Bool.and_false]
    have w2 : wonB n m (rP o) (rP r) = true := by
      unfold wonB
      rw [numW_sym, hs]
      simp only [or0, Option.getD_some, Option.isSome_some, Bool.true_and, hd]
      generalize decide (rP r < rP o) = c at hb ⊢
      generalize (s.2.2.1 == 0) = b at hb ⊢
      cases b <;> cases c <;> first | rfl | cases hb
    have aself : ∀ x : Row, amB n m x x = false := fun x => by unfold amB; rw [show (x.1 == x.1) = true from beq_self_eq_true _]; rfl
    have hf : ∀ x y : Row, amB n m x y = true → rW y = rW x := fun x y h => by
      unfold amB at h
      simp only [Bool.and_eq_true] at h
      exact eq_of_beq h.2.1
    have a1 : amB n m r o = false := by
      show (!(o.1 == r.1) && (o.2.2.1 == r.2.2.1 && wonB n m (rP r) (rP o))) = false
      rw [w1, Bool.and_false, Bool.and_false]
    have a2 : amB n m o r = true := by
      show (!(rP r == rP o) && (rW r == rW o && wonB n m (rP o) (rP r))) = true
      rw [w2, hw, show (rP r == rP o) = false by rw [beq_eq_false_iff_ne]; exact hp]
      simp
    have c1 : amV n m t r = 0 := by
      rw [amV_count, two_only t (rW r) hc r o hr ho hro rfl hw.symm _ (fun x h => hf r x h), aself, a1]
      rfl
    have c2 : amV n m t o = 1 := by
      rw [amV_count, two_only t (rW r) hc r o hr ho hro rfl hw.symm _ (fun x h => (hf o x h).trans hw.symm), aself, a2]
      rfl
    have : ltV (t, n, m) o r = true := (lt_iff _ _ _).2 (.inr ⟨hw.symm, .inl (by show amV n m t o > amV n m t r; rw [c1, c2]; decide)⟩)
    rw [hl] at this
    cases this
structure InvP (N : Nat) (p : List Int) (i : Nat) (se : List Bool) : Prop where
  len : se.length = N
  mem : ∀ k : Nat, k < N → (getA se k (dflt TC.b) = true ↔ ∃ j : Nat, j < i ∧ gI p j = k)
theorem getB_set (l : List Bool) (i k : Nat) (x : Bool) (h : i < l.length) (hk : k < l.length) : getA (setA l i x) k (dflt TC.b) = if k = i then x else getA l k (dflt TC.b) := by
  rw [setA_eq, getA_lt (by simpa using hk), List.getElem_set]
  by_cases e : k = i
  · subst e; simp
  · rw [if_neg (fun h => e h.symm), if_neg e, getA_lt hk]
theorem e2t_run (n : Int) (l : LSc) (t S : Rows) (p : List Int) (s : S1t) (h2 : 2 ≤ n) (h16 : n ≤ 16) (hc : chkV l = 0) (hl : t.length = n.toNat) (hF : ∀ i : Nat, i < n.toNat → RowOk n.toNat i (gR t i)) (hP : PlcOk n.toNat (t, n, cntM l) t S p) (hS : InvS n.toNat t n.toNat s) :
    iter st_e2t (n.toNat + 1) (hd_e2t n l t p s.ws (List.replicate (Int.toNat n) false) 0) = some ex_e2t := by
  have key := iter_inv (st := st_e2t) (fun i se => hd_e2t n l t p s.ws se i) (fun i se => setA se (Int.toNat (gI p i)) true) (fun _ => ex_e2t) (fun i se => InvP n.toNat p i se) n.toNat
    (fun i se hi hv => ⟨?_, ?_⟩) (fun se hv => ?_) n.toNat 0 (List.replicate (Int.toNat n) false) (n.toNat + 1) (by omega) (Nat.le_refl _) ?_
  · obtain ⟨s', _, hr, _⟩ := key
    exact hr
  · show (sm_e2t n l t p s.ws se (i : Int)).run = _
    unfold sm_e2t
    rw [decide_eq_true (show (i : Int) < n by omega), cond_true]
    obtain ⟨g1, g2⟩ := hP.rng i hi
    have hlen := hP.len
    have hin : ∀ k : Tree cE2t, inN p.length (i : Int) k = k := fun k => by
      unfold inN
      rw [decide_eq_true (show 0 ≤ (i : Int) ∧ (i : Int) < (p.length : Int) by omega), cond_true]
    have hse : ∀ k : Tree cE2t, inO se.length (gI p i) k = k := fun k => by
      unfold inO
      rw [decide_eq_true (show 0 ≤ gI p i ∧ gI p i < (se.length : Int) by rw [hv.len]; omega), decide_eq_true (show Int.toNat (gI p i) < se.length by rw [hv.len]; omega)]
      rfl
    have hns : getA se (Int.toNat (gI p i)) (dflt TC.b) = false := by
      cases hb : getA se (Int.toNat (gI p i)) (dflt TC.b) with
      | false => rfl
      | true =>
        obtain ⟨j, h1, h3⟩ := (hv.mem (Int.toNat (gI p i)) (by omega)).1 hb
        exact absurd (show gI p j = gI p i by omega) (hP.dif j i (by omega) hi (by omega))
    unfold bd_e2t
    rw [hin, hin, hin, hin, hse, hse, decide_eq_false (show ¬ gI p i < 0 by omega), decide_eq_false (show ¬ gI p i ≥ n by omega), hns, W64_id (n := (i : Int) + 1) (by omega) (by omega)]
    simp only [cond_false]
    by_cases h0 : i = 0
    · subst h0
      rfl
    · rw [show ((i : Int) == 0) = false by rw [beq_eq_false_iff_ne]; omega, cond_false, show W64 ((i : Int) - 1) = ((i - 1 : Nat) : Int) by rw [W64_id (by omega) (by omega)]; omega]
      obtain ⟨g3, g4⟩ := hP.rng (i - 1) (by omega)
      have hin2 : ∀ k : Tree cE2t, inN p.length ((i - 1 : Nat) : Int) k = k := fun k => by
        unfold inN
        rw [decide_eq_true (show 0 ≤ ((i - 1 : Nat) : Int) ∧ ((i - 1 : Nat) : Int) < (p.length : Int) by omega), cond_true]
      have hta : ∀ k : Tree cE2t, inN t.length (gI p ((i - 1 : Nat) : Int)) k = k := fun k => by
        unfold inN
        rw [decide_eq_true (show 0 ≤ gI p ((i - 1 : Nat) : Int) ∧ gI p ((i - 1 : Nat) : Int) < (t.length : Int) by omega), cond_true]
      have htb : ∀ k : Tree cE2t, inN t.length (gI p (i : Int)) k = k := fun k => by
        unfold inN
        rw [decide_eq_true (show 0 ≤ gI p (i : Int) ∧ gI p (i : Int) < (t.length : Int) by omega), cond_true]
      have hr1 := hP.row (i - 1) (by omega)
      have hr2 := hP.row i hi
      have hsrt := hP.srt (i - 1) i (by omega) hi
      have hm1 := hP.mem (i - 1) (by omega)
      have hm2 := hP.mem i hi
      have hp1 := hP.pl (i - 1) (by omega)
      have hp2 := hP.pl i hi
      have hdf := hP.dif (i - 1) i (by omega) hi (by omega)
      rw [hin2, hin]
      unfold nb_e2t
      rw [hta, htb]
      unfold gm_e2t
      rw [gameV_ok n _ _ h2 h16 g3 g1 (by omega) (by omega) hdf, hr1, hr2]
      simp only [beq_self_eq_true, cond_true]
      rw [coV_ok l hc, hta, htb, hta]
      generalize gI p ((i - 1 : Nat) : Int) = a at g3 g4 hp1 hdf ⊢
      generalize gI p (i : Int) = x at g1 g2 hp2 hdf ⊢
      have hF1 : 0 ≤ rW (gR S ((i - 1 : Nat) : Int)) ∧ rW (gR S ((i - 1 : Nat) : Int)) < n := by
        obtain ⟨k, hk, he⟩ := List.mem_iff_getElem.1 hm1
        have f := hF k (by omega)
        rw [gR_get t k hk, he] at f
        have := f.w0; have := f.wg; have := f.gn
        omega
      generalize gR S ((i - 1 : Nat) : Int) = r at hsrt hm1 hp1 hF1 ⊢
      generalize gR S (i : Int) = o at hsrt hm2 hp2 ⊢
      have hnl := (lt_not (t, n, cntM l) o r).1 hsrt
      rw [show decide (r.2.2.1 < o.2.2.1) = false from decide_eq_false fun h => hnl (.inl h)]
      simp only [cond_false]
      cases hm : cntM l (numW n a x) with
      | none => rfl
      | some sc =>
        simp only [Option.isSome_some, cond_true]
        by_cases hw : rW r = rW o
        · rw [show (r.2.2.1 == o.2.2.1) = true from beq_iff_eq.2 hw, cond_true]
          obtain ⟨w, hw2⟩ : ∃ w : Nat, rW r = (w : Int) := ⟨(rW r).toNat, by omega⟩
          have hws : ∀ k : Tree cE2t, inO s.ws.length r.2.2.1 k = k := fun k => by
            have h1 : decide (0 ≤ rW r ∧ rW r < (s.ws.length : Int)) = true := decide_eq_true (by rw [hS.len]; omega)
            have h3 : decide (Int.toNat (rW r) < s.ws.length) = true := decide_eq_true (by rw [hS.len]; omega)
            show (bif decide (0 ≤ rW r ∧ rW r < (s.ws.length : Int)) then bif decide (Int.toNat (rW r) < s.ws.length) then k else .fail else .fail) = k
            rw [h1, h3]
            rfl
          rw [hws]
          have hcn : gI s.ws r.2.2.1 = cntW t w := by
            show gI s.ws (rW r) = _
            rw [hw2, hS.cnt w (by omega), show n.toNat = t.length from hl.symm, List.take_length]
          rw [hcn]
          by_cases h22 : cntW t w = 2
          · have hft := first_of_two n (cntM l) t r o hm1 hm2 (by rw [← hp1, ← hp2]; exact hdf) hw (by rw [hw2]; exact h22) sc (by rw [← hp1, ← hp2]; exact hm) hsrt
            rw [h22]
            have hco : (coV l (numW n a x)).1.2.2.1 = sc.2.2.1 := by
              unfold coV
              rw [hc, hm]
              rfl
            rw [hco, hp1, hp2, hft]
            rfl
          · rw [show (((cntW t w : Nat) : Int) == 2) = false by rw [beq_eq_false_iff_ne]; omega]
            rfl
        · rw [show (r.2.2.1 == o.2.2.1) = false from beq_eq_false_iff_ne.2 hw]
          rfl
  · obtain ⟨g1, g2⟩ := hP.rng i hi
    refine ⟨(setA_length _ _ _).trans hv.len, fun k hk => ?_⟩
    rw [getB_set _ _ _ _ (by rw [hv.len]; omega) (by rw [hv.len]; omega)]
    by_cases e : k = Int.toNat (gI p i)
    · rw [if_pos e]
      exact ⟨fun _ => ⟨i, by omega, by omega⟩, fun _ => rfl⟩
    · rw [if_neg e, hv.mem k hk]
      constructor
      · rintro ⟨j, h1, h3⟩; exact ⟨j, by omega, h3⟩
      · rintro ⟨j, h1, h3⟩
        by_cases e2 : j = i
        · subst e2; omega
        · exact ⟨j, by omega, h3⟩
  · show (sm_e2t n l t p s.ws se ((n.toNat : Nat) : Int)).run = _
    unfold sm_e2t
    rw [decide_eq_false (show ¬ ((n.toNat : Nat) : Int) < n by omega)]
    rfl
  · refine ⟨by simp, fun k hk => ?_⟩
    rw [getA_lt (by simpa using hk)]
    simp
end Ev
end V
end Go.Proofs.Ytgchccljmjmibaa
