/- Chapter 11: Draw: what its loops come to. -/
import Derived.Test.YtgchccljmjmibaaFe
namespace Go.Proofs.Ytgchccljmjmibaa
open Go.RowKit
namespace V
namespace Ev
/-- numbers in order -/
def rgI (a : Nat) : Nat → List Int
  | 0 => []
  | c + 1 => (a : Int) :: rgI (a + 1) c
theorem rgI_len : ∀ (c a : Nat), (rgI a c).length = c
  | 0, _ => rfl
  | c + 1, a => by simp [rgI, rgI_len c (a + 1)]
theorem rgI_snoc : ∀ (c a : Nat), rgI a (c + 1) = rgI a c ++ [((a + c : Nat) : Int)]
  | 0, a => by simp [rgI]
  | c + 1, a => by
    rw [show rgI a (c + 1 + 1) = (a : Int) :: rgI (a + 1) (c + 1) from rfl, rgI_snoc c (a + 1), show rgI a (c + 1) = (a : Int) :: rgI (a + 1) c from rfl, show a + 1 + c = a + (c + 1) by omega]
    rfl
theorem rgI_split : ∀ (c d a : Nat), rgI a (c + d) = rgI a c ++ rgI (a + c) d
  | 0, d, a => by simp [rgI]
  | c + 1, d, a => by
    rw [show c + 1 + d = (c + d) + 1 by omega, show rgI a (c + d + 1) = (a : Int) :: rgI (a + 1) (c + d) from rfl, rgI_split c d (a + 1), show a + 1 + c = a + (c + 1) by omega]
    rfl
theorem setA_mid (A B : List Int) (x v : Int) : setA (A ++ x :: B) A.length v = A ++ v :: B := by
  rw [setA_eq]
  simp
theorem d0_run (n k : Int) (l : List Int) (N : Nat) (hN : N ≤ 1000) : ∀ (j i fuel : Nat), i + j = N → j < fuel → iter st_d0 fuel (hd_d0 n k l (rgI 0 i ++ List.replicate j 0) N i) = some (ex_d0 n k l (rgI 0 N))
  | 0, i, fuel + 1, h, _ => by
    refine iter_out ?_
    show (sm_d0 n k l _ N i).run = _
    unfold sm_d0
    rw [decide_eq_false (show ¬ ((i : Int) < (N : Int)) by omega), show i = N by omega]
    simp
    rfl
  | j + 1, i, fuel + 1, h, hf => by
    have hl := rgI_len i 0
    have hrun : (st_d0 (hd_d0 n k l (rgI 0 i ++ List.replicate (j + 1) 0) N i)).run = some (.inl (hd_d0 n k l (rgI 0 (i + 1) ++ List.replicate j 0) N ((i + 1 : Nat) : Int))) := by
      show (sm_d0 n k l (rgI 0 i ++ List.replicate (j + 1) 0) N i).run = _
      unfold sm_d0
      rw [decide_eq_true (show ((i : Int) < (N : Int)) by omega), inO_ok (by simp [hl]; omega), show Int.toNat (i : Int) = i by omega, W64_id (n := (i : Int) + 1) (by omega) (by omega)]
      have := setA_mid (rgI 0 i) (List.replicate j 0) 0 (i : Int)
      rw [hl] at this
      rw [List.replicate_succ, this, rgI_snoc i 0, Nat.zero_add]
      simp
      rfl
    rw [iter_in hrun]
    exact d0_run n k l N hN j (i + 1) fuel (by omega) (by omega)
/-- a lot is drawn -/
def shS (p : List Int × List Int) (lot : Int) : List Int × List Int := (p.1 ++ [getA p.2 (Int.tmod lot p.2.length).toNat 0], p.2.take (Int.tmod lot p.2.length).toNat ++ p.2.drop ((Int.tmod lot p.2.length).toNat + 1))
theorem tmod_lt {x : Int} {m : Nat} (hx : 0 ≤ x) (hm : 0 < m) : 0 ≤ Int.tmod x m ∧ Int.tmod x m < m := by
  rw [Int.tmod_eq_emod_of_nonneg hx]
  exact ⟨Int.emod_nonneg _ (by omega), Int.emod_lt_of_pos _ (by omega)⟩
theorem cp_eq (R L : List Int) (j : Nat) (hj : j < L.length) : setA (cpL (R ++ L) ((R.length : Int) + 1) ((R.length : Int) + j + 1) (R.length : Int) ((R.length : Int) + j)) R.length (getA L j 0) = (R ++ [getA L j 0]) ++ (L.take j ++ L.drop (j + 1)) := by
  unfold cpL
  rw [show Int.toNat ((R.length : Int) + 1) = R.length + 1 by omega, show Int.toNat ((R.length : Int) + j + 1) = R.length + j + 1 by omega, show Int.toNat (R.length : Int) = R.length by omega, show Int.toNat ((R.length : Int) + j) = R.length + j by omega,
    show R.length + j - R.length = j by omega, show R.length + j + 1 - (R.length + 1) = j by omega, Nat.min_self, List.drop_left, show R.length + 1 + j = R.length + (j + 1) by omega]
  have e1 : (R ++ L).take (R.length + 1) = R ++ L.take 1 := by rw [List.take_append, List.take_of_length_le (by omega), show R.length + 1 - R.length = 1 by omega]
  have e2 : (R ++ L).drop (R.length + (j + 1)) = L.drop (j + 1) := by rw [List.drop_append, List.drop_eq_nil_of_le (by omega), show R.length + (j + 1) - R.length = j + 1 by omega, List.nil_append]
  rw [e1, e2]
  cases L with
  | nil => simp at hj
  | cons x L =>
    have := setA_mid R ((x :: L).take j ++ (x :: L).drop (j + 1)) x (getA (x :: L) j 0)
    rw [show R ++ List.take 1 (x :: L) ++ (List.take j (x :: L) ++ List.drop (j + 1) (x :: L)) = R ++ x :: (List.take j (x :: L) ++ List.drop (j + 1) (x :: L)) by simp, this]
    simp
theorem getA_right (R L : List Int) (j : Nat) : getA (R ++ L) (R.length + j) 0 = getA L j 0 := by
  rw [getA_eq, getA_eq, List.getD_eq_getElem?_getD, List.getD_eq_getElem?_getD, List.getElem?_append_right (by omega), show R.length + j - R.length = j by omega]
theorem d1_run (n k : Nat) (l : List Int) (hn : n ≤ 64) (hl0 : ∀ x ∈ l, 0 ≤ x) (hlen : k + l.length = n) : ∀ (ls : List Int) (i : Nat) (R L : List Int) (fuel : Nat), l.drop i = ls → i + ls.length = l.length → R.length = k + i → L.length = ls.length → ls.length < fuel →
    iter st_d1 fuel (hd_d1 n k (R ++ L) l l.length i) = some (ex_d1 n ((ls.foldl shS (R, L)).1 ++ (ls.foldl shS (R, L)).2))
  | [], i, R, L, fuel + 1, hd, hi, hR, hL, _ => by
    refine iter_out ?_
    show (sm_d1 n k (R ++ L) l l.length i).run = _
    unfold sm_d1
    rw [decide_eq_false (show ¬ ((i : Int) < (l.length : Int)) by simp at hi; omega)]
    rfl
  | x :: ls, i, R, L, fuel + 1, hd, hi, hR, hL, hf => by
    have hlt : i < l.length := by simp at hi; omega
    have hx : l[i] = x := by
      rw [List.drop_eq_getElem_cons hlt] at hd
      exact (List.cons.inj hd).1
    have hx0 : 0 ≤ x := hl0 x (by rw [← hx]; exact List.getElem_mem hlt)
    have hd' : l.drop (i + 1) = ls := by
      rw [List.drop_eq_getElem_cons hlt] at hd
      exact (List.cons.inj hd).2
    simp only [List.length_cons] at hi hL hf
    have hm := tmod_lt (m := L.length) hx0 (by omega)
    obtain ⟨j, hj⟩ : ∃ j : Nat, Int.tmod x L.length = j := ⟨(Int.tmod x L.length).toNat, by omega⟩
    rw [hj] at hm
    have hs : shS (R, L) x = (R ++ [getA L j 0], L.take j ++ L.drop (j + 1)) := by
      unfold shS
      simp only
      rw [hj]
      rfl
    have hrun : (st_d1 (hd_d1 n k (R ++ L) l l.length i)).run = some (.inl (hd_d1 n k ((R ++ [getA L j 0]) ++ (L.take j ++ L.drop (j + 1))) l l.length ((i + 1 : Nat) : Int))) := by
      show (sm_d1 n k (R ++ L) l l.length i).run = _
      unfold sm_d1
      rw [decide_eq_true (show ((i : Int) < (l.length : Int)) by omega), inN_ok (by omega)]
      simp only [cond_true]
      unfold s0_d1
      rw [W64_id (n := (k : Int) + i) (by omega) (by omega), W64_id (n := (n : Int) - ((k : Int) + i)) (by omega) (by omega), show (n : Int) - ((k : Int) + i) = (L.length : Int) by omega, show ((L.length : Int) != 0) = true by rw [bne_iff_ne]; omega]
      simp only [cond_true]
      rw [show Int.toNat (i : Int) = i by omega, getA_lt hlt, hx, hj, show (k : Int) + i = (R.length : Int) by omega, W64_id (n := (R.length : Int) + j) (by omega) (by omega)]
      unfold s1_d1 wn_d1
      rw [inO_ok (by simp; omega), W64_id (n := (R.length : Int) + 1) (by omega) (by omega), W64_id (n := (R.length : Int) + j + 1) (by omega) (by omega), decide_eq_true (show 0 ≤ (R.length : Int) + 1 ∧ (R.length : Int) + 1 ≤ (R.length : Int) + j + 1 ∧ (R.length : Int) + j + 1 ≤ ((R ++ L).length : Int) by simp; omega), decide_eq_true (show 0 ≤ (R.length : Int) ∧ (R.length : Int) ≤ (R.length : Int) + j ∧ (R.length : Int) + j ≤ ((R ++ L).length : Int) by simp; omega)]
      simp only [cond_true]
      rw [show Int.toNat ((R.length : Int) + j) = R.length + j by omega, getA_right]
      unfold s2_d1
      have hc : (cpL (R ++ L) ((R.length : Int) + 1) ((R.length : Int) + j + 1) (R.length : Int) ((R.length : Int) + j)).length = R.length + L.length := by
        have := congrArg List.length (cp_eq R L j (by omega))
        rw [setA_eq, List.length_set] at this
        rw [this]
        simp; omega
      rw [inO_ok (by rw [hc]; omega), show Int.toNat (R.length : Int) = R.length by omega, cp_eq R L j (by omega), W64_id (n := (i : Int) + 1) (by omega) (by omega)]
      rfl
    rw [iter_in hrun, d1_run n k l hn hl0 hlen ls (i + 1) _ _ fuel hd' (by omega) (by simp; omega) (by simp; omega) (by omega), List.foldl_cons, hs]
theorem shS_len : ∀ (ls R L : List Int), (∀ x ∈ ls, 0 ≤ x) → L.length = ls.length → (ls.foldl shS (R, L)).2 = [] ∧ (ls.foldl shS (R, L)).1.length = R.length + L.length
  | [], R, L, _, hL => by
    have : L = [] := List.eq_nil_of_length_eq_zero hL
    subst this
    exact ⟨rfl, rfl⟩
  | x :: ls, R, L, h, hL => by
    simp only [List.length_cons] at hL
    have hm := tmod_lt (m := L.length) (h x (List.mem_cons_self ..)) (by omega)
    have hj : (Int.tmod x L.length).toNat < L.length := by omega
    obtain ⟨h1, h2⟩ := shS_len ls (R ++ [getA L (Int.tmod x L.length).toNat 0]) (L.take (Int.tmod x L.length).toNat ++ L.drop ((Int.tmod x L.length).toNat + 1)) (fun y hy => h y (List.mem_cons_of_mem _ hy)) (by simp; omega)
    rw [List.foldl_cons]
    refine ⟨h1, ?_⟩
    rw [show shS (R, L) x = (R ++ [getA L (Int.tmod x L.length).toNat 0], L.take (Int.tmod x L.length).toNat ++ L.drop ((Int.tmod x L.length).toNat + 1)) from rfl, h2]
    simp; omega
end Ev
end V
end Go.Proofs.Ytgchccljmjmibaa
