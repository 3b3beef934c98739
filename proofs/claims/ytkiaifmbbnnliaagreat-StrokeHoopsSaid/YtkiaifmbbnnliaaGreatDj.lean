import Derived.Test.YtkiaifmbbnnliaaGreatDg
namespace Go.Proofs.YtkiaifmbbnnliaaGreat
open Go.RowKit
namespace V
namespace St
def ptH (h : TCT cHoop) (u : Int) : TCT cPt := bif h.2.2.2.2.1 then (W64 (h.1 + u), h.2.1, ()) else (h.1, W64 (h.2.1 + u), ())
def trkN (h : TCT cHoop) (lo st : Int) (n : Nat) : Trk := (List.range n).map (fun i : Nat => ptH h (lo + (i : Int) * st))
theorem trkN_succ {h : TCT cHoop} {lo st : Int} {n : Nat} : trkN h lo st (n + 1) = trkN h lo st n ++ [ptH h (lo + (n : Int) * st)] := by
  unfold trkN; rw [List.range_succ, List.map_append]; rfl
theorem trkN_len {h : TCT cHoop} {lo st : Int} {n : Nat} : (trkN h lo st n).length = n := by unfold trkN; rw [List.length_map, List.length_range]
theorem trkN_get {h : TCT cHoop} {lo st : Int} {n i : Nat} (hi : i < n) : getPt (trkN h lo st n) i = ptH h (lo + (i : Int) * st) := by
  unfold getPt
  rw [getA_lt (by rw [trkN_len]; exact hi)]
  simp only [trkN, List.getElem_map, List.getElem_range]
theorem W_add_sub {a u : Int} (ha : 0 ≤ a ∧ a ≤ 4194304) (hu : -200000 ≤ u ∧ u ≤ 200000) : W64 (W64 (a + u) - a) = u := by
  rw [W64_id (n := a + u) (by omega) (by omega), show a + u - a = u by omega, W64_id (by omega) (by omega)]
theorem W_self {a : Int} : W64 (a - a) = 0 := by rw [Int.sub_self]; rfl
theorem uH_pt {h : TCT cHoop} {u : Int} (hx : 0 ≤ h.1 ∧ h.1 ≤ 4194304) (hy : 0 ≤ h.2.1 ∧ h.2.1 ≤ 4194304) (hu : -200000 ≤ u ∧ u ≤ 200000) : uH h (ptH h u) = u := by
  unfold uH ptH
  cases h.2.2.2.2.1 with
  | true => exact W_add_sub hx hu
  | false => exact W_add_sub hy hu
theorem vH_pt {h : TCT cHoop} {u : Int} : vH h (ptH h u) = 0 := by
  unfold vH ptH
  cases h.2.2.2.2.1 with
  | true => exact W_self
  | false => exact W_self
theorem gap_no {gp : Int} (hg : 2 ≤ gp ∧ gp ≤ 32768) : decide (max 0 (W64 (0 - 0)) ≥ W64 (Int.tdiv gp 2)) = false := by
  rw [Int.tdiv_eq_ediv_of_nonneg (by omega), W64_id (n := gp / 2) (by omega) (by omega), W64_id (n := 0 - 0) (by omega) (by omega)]
  exact decide_eq_false (by omega)
theorem stn_run {u gp wr r : Int} (hg : 2 ≤ gp ∧ gp ≤ 32768) (hw : 1 ≤ wr ∧ wr ≤ 8192) (hr : 1 ≤ r ∧ r ≤ 16384) (hu : -200000 ≤ u ∧ u ≤ 200000) (h : r - wr ≤ u) : stn u 0 gp wr r = 3 := by
  unfold stn
  rw [gap_no hg, W64_id (n := u - r) (by omega) (by omega), W64_id (n := 0 - wr) (by omega) (by omega), decide_eq_true (show u - r ≥ 0 - wr by omega)]
  rfl
theorem stn_in {u gp wr r : Int} (hg : 2 ≤ gp ∧ gp ≤ 32768) (hw : 1 ≤ wr ∧ wr ≤ 8192) (hr : 1 ≤ r ∧ r ≤ 16384) (hu : -200000 ≤ u ∧ u ≤ 200000) (h : u < r - wr) (h2 : 0 - wr - r < u) : (stn u 0 gp wr r == 1 || stn u 0 gp wr r == 2) = true := by
  unfold stn
  rw [gap_no hg, W64_id (n := u - r) (by omega) (by omega), W64_id (n := 0 - wr) (by omega) (by omega), decide_eq_false (show ¬ u - r ≥ 0 - wr by omega), W64_id (n := u + r) (by omega) (by omega), decide_eq_true (show u + r > 0 - wr by omega)]
  cases decide (u + r > wr) <;> rfl
theorem ru_inl {h : TCT cHoop} {f : Bool} {r : Int} {l : Trk} : ∀ (k i : Nat) (was s : Int), foldN (ruE h f r l) i k was = .inl s → ∀ j : Nat, i ≤ j → j + 1 < i + k → hitB (standV h f (getPt l (j + 1)) r) (standV h f (getPt l j) r) = false
  | 0, i, _, _, _, j, h1, h2 => by omega
  | k + 1, i, was, s, e, j, h1, h2 => by
    unfold foldN at e
    cases hf : ruE h f r l i was with
    | inr b => rw [hf] at e; cases e
    | inl s1 =>
      rw [hf] at e
      have hs : s1 = standV h f (getPt l i) r := by
        unfold ruE at hf
        cases hb : decide ((i : Int) > 0) && hitB (standV h f (getPt l i) r) was with
        | true => rw [hb] at hf; cases hf
        | false => rw [hb] at hf; exact (Sum.inl.inj hf).symm
      subst hs
      by_cases hij : i = j
      · subst hij
        cases k with
        | zero => omega
        | succ k =>
          unfold foldN at e
          cases hb : hitB (standV h f (getPt l (i + 1)) r) (standV h f (getPt l i) r) with
          | false => rfl
          | true =>
            have : ruE h f r l (i + 1) (standV h f (getPt l i) r) = .inr () := by
              unfold ruE
              rw [decide_eq_true (show ((i + 1 : Nat) : Int) > 0 by omega), Bool.true_and, hb]
              rfl
            simp only [this] at e
            cases e
      · exact ru_inl k (i + 1) _ s e j (by omega) (by omega)
theorem run_hit {h : TCT cHoop} {f : Bool} {r : Int} {l : Trk} {j : Nat} (hj : j + 1 < l.length) (hh : hitB (standV h f (getPt l (j + 1)) r) (standV h f (getPt l j) r) = true) : runB h f r l = true := by
  unfold runB
  cases hf : foldN (ruE h f r l) 0 l.length 0 with
  | inr _ => rfl
  | inl s =>
    have := ru_inl _ 0 0 s hf j (Nat.zero_le _) (by omega)
    rw [hh] at this
    cases this
structure HpOk (h : TCT cHoop) : Prop where
  x : 0 ≤ h.1 ∧ h.1 ≤ 4194304
  y : 0 ≤ h.2.1 ∧ h.2.1 ≤ 4194304
  g : 2 ≤ h.2.2.1 ∧ h.2.2.1 ≤ 32768
  w : 1 ≤ h.2.2.2.1 ∧ h.2.2.2.1 ≤ 8192
theorem hp_ok {h : TCT cHoop} (k : hoopB h = true) : HpOk h := by
  unfold hoopB at k
  simp only [Bool.and_eq_true, inR_iff] at k
  exact ⟨k.1, k.2.1, k.2.2.1, k.2.2.2.2⟩
theorem hoop_in {l : TCT cLawn} {n : Int} (hl : lawE l = 0) (hn : 0 ≤ n ∧ n < ((hoopsL l).length : Int)) : HpOk (hoopV l n) := by
  have h := (law_ok hl).hs
  exact hp_ok (List.all_eq_true.1 h _ (getA_mem (by omega) _))
structure TrOk (wr r st : Int) (K : Nat) : Prop where
  hw : 1 ≤ wr ∧ wr ≤ 8192
  hr : 1 ≤ r ∧ r ≤ 16384
  s : 1 ≤ st ∧ st ≤ 2 * r - 1
  hi : 2 * (wr + r + 1) < (K : Int) * st
  lo : (K : Int) * st ≤ 2 * (wr + r + 1) + st
  n : K ≤ 91
theorem mul_mono {a b c : Int} (h : a ≤ b) (hc : 0 ≤ c) : a * c ≤ b * c := Int.mul_le_mul_of_nonneg_right h hc
theorem tr_at {wr r st : Int} {K : Nat} (k : TrOk wr r st K) {i : Nat} (hi : i ≤ K) : 0 ≤ (i : Int) * st ∧ (i : Int) * st ≤ (K : Int) * st := by
  have h1 := k.s
  exact ⟨Int.mul_nonneg (by omega) (by omega), mul_mono (by omega) (by omega)⟩
theorem tr_mid {wr r st : Int} {K : Nat} (k : TrOk wr r st K) : ∃ j : Nat, j + 1 ≤ K ∧ (j : Int) * st ≤ 2 * r ∧ 2 * r < ((j + 1 : Nat) : Int) * st := by
  have h1 := k.s
  have h2 := k.hr
  have h3 := k.hw
  have h4 := k.hi
  have a := Int.ediv_mul_le (2 * r) (show st ≠ 0 by omega)
  have b := Int.lt_ediv_add_one_mul_self (2 * r) (show 0 < st by omega)
  have c : 0 ≤ 2 * r / st := Int.ediv_nonneg (by omega) (by omega)
  obtain ⟨j, hj⟩ := Int.eq_ofNat_of_zero_le c
  rw [hj] at a b
  refine ⟨j, ?_, a, ?_⟩
  · by_cases hk : j + 1 ≤ K
    · exact hk
    · have := mul_mono (a := (K : Int)) (b := (j : Int)) (c := st) (by omega) (by omega)
      omega
  · rw [show ((j + 1 : Nat) : Int) = (j : Int) + 1 by omega]; exact b
theorem hit_at {u v gp wr r : Int} (hg : 2 ≤ gp ∧ gp ≤ 32768) (hw : 1 ≤ wr ∧ wr ≤ 8192) (hr : 1 ≤ r ∧ r ≤ 16384) (hu : -200000 ≤ u ∧ u ≤ 200000) (hv : -200000 ≤ v ∧ v ≤ 200000) (h1 : r - wr ≤ v) (h2 : u < r - wr) (h3 : 0 - wr - r < u) : hitB (stn v 0 gp wr r) (stn u 0 gp wr r) = true := by
  unfold hitB
  rw [stn_run hg hw hr hv h1, stn_in hg hw hr hu h2 h3]
  rfl
theorem tr_run {h : TCT cHoop} {r st : Int} {K : Nat} (ho : HpOk h) (k : TrOk h.2.2.2.1 r st K) : runB h true r (trkN h (0 - (h.2.2.2.1 + r + 1)) st (K + 1)) = true := by
  obtain ⟨j, j1, j2, j3⟩ := tr_mid k
  have a := tr_at k (i := j) (by omega)
  have b := tr_at k (i := j + 1) j1
  refine run_hit (j := j) (by rw [trkN_len]; omega) ?_
  rw [trkN_get (by omega), trkN_get (by omega)]
  unfold standV fwd
  simp only [Bool.not_true, cond_false]
  have key : ∀ (wr x y : Int), TrOk wr r st K → 0 ≤ x → x ≤ 2 * r → x ≤ (K : Int) * st → 2 * r < y → y ≤ (K : Int) * st → y ≤ x + st →
      (-200000 ≤ 0 - (wr + r + 1) + x ∧ 0 - (wr + r + 1) + x ≤ 200000) ∧ (-200000 ≤ 0 - (wr + r + 1) + y ∧ 0 - (wr + r + 1) + y ≤ 200000) ∧ r - wr ≤ 0 - (wr + r + 1) + y ∧ 0 - (wr + r + 1) + x < r - wr ∧ 0 - wr - r < 0 - (wr + r + 1) + x := by
    intro wr x y k e1 e2 e3 e4 e5 e6
    have q1 := k.hw
    have q2 := k.hr
    have q3 := k.s
    have q5 := k.lo
    omega
  have e6 : ((j + 1 : Nat) : Int) * st = (j : Int) * st + st := by
    rw [show ((j + 1 : Nat) : Int) = (j : Int) + 1 by omega, Int.add_mul, Int.one_mul]
  obtain ⟨f1, f2, f3, f4, f5⟩ := key h.2.2.2.1 ((j : Int) * st) (((j + 1 : Nat) : Int) * st) k a.1 j2 a.2 j3 b.2 (by omega)
  rw [uH_pt ho.x ho.y f1, uH_pt ho.x ho.y f2, vH_pt, vH_pt]
  exact hit_at ho.g ho.w k.hr f1 f2 f3 f4 f5
theorem end_no {u r wr : Int} (hw : 1 ≤ wr ∧ wr ≤ 8192) (hr : 1 ≤ r ∧ r ≤ 16384) (hu : wr + r + 1 < u ∧ u ≤ 200000) : decide (W64 (u - r) < W64 (0 - wr)) = false ∧ decide (W64 (W64 (0 - u) - r) < W64 (0 - wr)) = true := by
  rw [W64_id (n := u - r) (by omega) (by omega), W64_id (n := 0 - wr) (by omega) (by omega), W64_id (n := 0 - u) (by omega) (by omega), W64_id (n := 0 - u - r) (by omega) (by omega)]
  exact ⟨decide_eq_false (by omega), decide_eq_true (by omega)⟩
theorem arg_no {n nh r : Int} {m : Nat} (hn : 0 ≤ n ∧ n < nh) (hr : 1 ≤ r ∧ r ≤ 16384) (hm : 1 ≤ m) : argB n nh r (m : Int) = false := by
  unfold argB
  rw [decide_eq_false (show ¬ n < 0 by omega), decide_eq_false (show ¬ n ≥ nh by omega), decide_eq_false (show ¬ r < 1 by omega), decide_eq_false (show ¬ r > 16384 by omega)]
  show ((m : Int) == 0) = false
  rw [beq_eq_false_iff_ne]
  omega
theorem hoops_both {l : TCT cLawn} {n r st : Int} {K : Nat} (hl : lawE l = 0) (hn : 0 ≤ n ∧ n < ((hoopsL l).length : Int)) (k : TrOk (hoopV l n).2.2.2.1 r st K) :
    (runV l n true r (trkN (hoopV l n) (0 - ((hoopV l n).2.2.2.1 + r + 1)) st (K + 1)) = (false, 2, ()) ∧ runV l n false r (trkN (hoopV l n) (0 - ((hoopV l n).2.2.2.1 + r + 1)) st (K + 1)) = (false, 2, ())) ∨
    (runV l n true r (trkN (hoopV l n) (0 - ((hoopV l n).2.2.2.1 + r + 1)) st (K + 1)) = (true, 0, ()) ∧ runV l n false r (trkN (hoopV l n) (0 - ((hoopV l n).2.2.2.1 + r + 1)) st (K + 1)) = (false, 0, ())) := by
  have ho := hoop_in hl hn
  have hrun := tr_run ho k
  have hk := k.n
  have hlast : lastP (trkN (hoopV l n) (0 - ((hoopV l n).2.2.2.1 + r + 1)) st (K + 1)) = ptH (hoopV l n) (0 - ((hoopV l n).2.2.2.1 + r + 1) + (K : Int) * st) := by
    unfold lastP
    rw [trkN_len, show W64 (((K + 1 : Nat) : Int) - 1) = (K : Int) by rw [show ((K + 1 : Nat) : Int) - 1 = (K : Int) by omega]; exact W64_id (by omega) (by omega), show Int.toNat (K : Int) = K from rfl, trkN_get (by omega)]
  have key : ∀ wr : Int, TrOk wr r st K → (wr + r + 1 < 0 - (wr + r + 1) + (K : Int) * st ∧ 0 - (wr + r + 1) + (K : Int) * st ≤ 200000) ∧ -200000 ≤ 0 - (wr + r + 1) + (K : Int) * st := by
    intro wr k
    have q1 := k.hw
    have q2 := k.hr
    have q3 := k.s
    have q4 := k.hi
    have q5 := k.lo
    omega
  obtain ⟨f1, f2⟩ := key _ k
  have fe := end_no ho.w k.hr f1
  have hu := uH_pt ho.x ho.y (u := 0 - ((hoopV l n).2.2.2.1 + r + 1) + (K : Int) * st) ⟨f2, f1.2⟩
  have hlen : ((trkN (hoopV l n) (0 - ((hoopV l n).2.2.2.1 + r + 1)) st (K + 1)).length : Int) = ((K + 1 : Nat) : Int) := by rw [trkN_len]
  have harg : argB n ((hoopsL l).length : Int) r ((trkN (hoopV l n) (0 - ((hoopV l n).2.2.2.1 + r + 1)) st (K + 1)).length : Int) = false := by rw [hlen]; exact arg_no hn k.hr (by omega)
  have hmany : decide (((trkN (hoopV l n) (0 - ((hoopV l n).2.2.2.1 + r + 1)) st (K + 1)).length : Int) > 4001) = false := by rw [hlen]; exact decide_eq_false (by omega)
  unfold runV
  rw [hl, harg, hmany, hlast, hrun, hu]
  simp only [bne_self_eq_false, cond_false]
  cases (trkN (hoopV l n) (0 - ((hoopV l n).2.2.2.1 + r + 1)) st (K + 1)).any (p_Pt ()) with
  | true => exact .inl ⟨rfl, rfl⟩
  | false =>
    refine .inr ⟨?_, ?_⟩
    · show (bif decide (W64 (0 - ((hoopV l n).2.2.2.1 + r + 1) + (K : Int) * st - r) < W64 (0 - (hoopV l n).2.2.2.1)) then ((false, 0, ()) : RuR) else (true, 0, ())) = _
      rw [fe.1]; rfl
    · show (bif decide (W64 (W64 (0 - (0 - ((hoopV l n).2.2.2.1 + r + 1) + (K : Int) * st)) - r) < W64 (0 - (hoopV l n).2.2.2.1)) then ((false, 0, ()) : RuR) else (runB (hoopV l n) false r (trkN (hoopV l n) (0 - ((hoopV l n).2.2.2.1 + r + 1)) st (K + 1)), 0, ())) = _
      rw [fe.2]; rfl
def byS (L by0 : Int) : Int := bif decide (Int.tdiv L by0 > 90) then Int.tdiv L 90 + 1 else by0
theorem by_ok {wr r by0 : Int} (hw : 1 ≤ wr ∧ wr ≤ 8192) (hr : 1 ≤ r ∧ r ≤ 16384) (hb : 1 ≤ by0) (hs : byS (2 * (wr + r + 1)) by0 < 2 * r) : TrOk wr r (byS (2 * (wr + r + 1)) by0) (Int.toNat (2 * (wr + r + 1) / byS (2 * (wr + r + 1)) by0) + 1) := by
  have hL : 0 ≤ 2 * (wr + r + 1) ∧ 2 * (wr + r + 1) ≤ 49154 := by omega
  have h1 : 1 ≤ byS (2 * (wr + r + 1)) by0 ∧ 2 * (wr + r + 1) / byS (2 * (wr + r + 1)) by0 ≤ 90 := by
    generalize 2 * (wr + r + 1) = L at hL
    unfold byS
    rw [Int.tdiv_eq_ediv_of_nonneg hL.1, Int.tdiv_eq_ediv_of_nonneg hL.1]
    cases hd : decide (L / by0 > 90) with
    | false =>
      have := of_decide_eq_false hd
      simp only [cond_false]
      omega
    | true =>
      simp only [cond_true]
      have q := Int.ediv_nonneg hL.1 (show (0 : Int) ≤ 90 by omega)
      refine ⟨by omega, ?_⟩
      have a := Int.lt_ediv_add_one_mul_self L (show (0 : Int) < 90 by omega)
      have b : L / (L / 90 + 1) < 91 := Int.ediv_lt_of_lt_mul (by omega) (by omega)
      omega
  generalize byS (2 * (wr + r + 1)) by0 = st at h1 hs
  have a := Int.ediv_mul_le (2 * (wr + r + 1)) (show st ≠ 0 by omega)
  have b := Int.lt_ediv_add_one_mul_self (2 * (wr + r + 1)) (show 0 < st by omega)
  have c : 0 ≤ 2 * (wr + r + 1) / st := Int.ediv_nonneg hL.1 (by omega)
  obtain ⟨j, hj⟩ := Int.eq_ofNat_of_zero_le c
  rw [hj] at a b h1
  have e : ((j + 1 : Nat) : Int) * st = (j : Int) * st + st := by
    rw [show ((j + 1 : Nat) : Int) = (j : Int) + 1 by omega, Int.add_mul, Int.one_mul]
  have e2 : ((j : Int) + 1) * st = (j : Int) * st + st := by rw [Int.add_mul, Int.one_mul]
  rw [e2] at b
  rw [hj, show Int.toNat (j : Int) = j from rfl]
  exact ⟨hw, hr, by omega, by rw [e]; exact b, by rw [e]; omega, by omega⟩
end St
end V
end Go.Proofs.YtkiaifmbbnnliaaGreat
