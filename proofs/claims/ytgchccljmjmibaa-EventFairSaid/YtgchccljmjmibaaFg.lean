/- Chapter 11: Draw of both: the contract. -/
import Derived.Test.YtgchccljmjmibaaFf
namespace Go.Proofs.Ytgchccljmjmibaa
open Go.RowKit
namespace V
namespace Ev
/-- how many slots -/
def szI (n : Int) : Int := bif decide (n ≤ 1) then 1 else bif decide (n ≤ 2) then 2 else bif decide (n ≤ 4) then 4 else bif decide (n ≤ 8) then 8 else bif decide (n ≤ 16) then 16 else bif decide (n ≤ 32) then 32 else 64
/-- who stands in the slot of a rank -/
def slF (n : Int) (r : List Int) (x : Int) : Int := bif decide (x < n) then getA r x.toNat 0 else -1
/-- the ranks, in order -/
def rkF (n k : Int) (l : List Int) : List Int := (l.foldl shS (rgI 0 k.toNat, rgI k.toNat (n - k).toNat)).1
/-- a draw, and the error -/
def drwV (n k : Int) (l : List Int) : List Int × Int :=
  bif decide (n < 2) || (decide (n > 64) || (decide (k < 0) || decide (k > n))) then ([], 3) else bif (l.length : Int) != n - k then ([], 17) else bif l.any (p_Lot ()) then ([], 2) else ((ordT (szI n).toNat).map (slF n (rkF n k l)), 0)
theorem sz_ok : ∀ n : Nat, n ≤ 64 → 2 ≤ n → W64 (1 * 2 ^ min (blF (n - 1)).toNat (IntKind.bits .i64)) = szI n ∧ powB (szI n) = true ∧ (n : Int) ≤ szI n ∧ szI n < 2 * n ∧ 0 ≤ blF (n - 1) := by decide +kernel
theorem ord_ok {z : Int} (h : powB z = true) : ((ordT z.toNat).length : Int) = z ∧ ∀ x ∈ ordT z.toNat, 0 ≤ x ∧ x < z := by
  rcases pow_cases h with rfl | rfl | rfl | rfl | rfl | rfl | rfl <;> decide +kernel
/-! slots -/
theorem d2_run (n : Int) (r : List Int) (o : List Int) (ho : o.length ≤ 64) (hr : ∀ x ∈ o, 0 ≤ x ∧ (x < n → x < r.length)) : ∀ (b a : List Int) (fuel : Nat), a ++ b = o → b.length < fuel →
    iter st_d2 fuel (hd_d2 n r (a.map (slF n r) ++ b) (o.length : Int) (a.length : Int)) = some (ex_d2 (o.map (slF n r)))
  | [], a, fuel + 1, h, _ => by
    refine iter_out ?_
    rw [List.append_nil] at h
    subst h
    show (sm_d2 n r _ (a.length : Int) (a.length : Int)).run = _
    unfold sm_d2
    rw [decide_eq_false (show ¬ ((a.length : Int) < (a.length : Int)) by omega), List.append_nil]
    rfl
  | x :: b, a, fuel + 1, h, hf => by
    have hl : a.length + (b.length + 1) = o.length := by rw [← h]; simp
    obtain ⟨h0, h1⟩ := hr x (by rw [← h]; simp)
    have hm : (a.map (slF n r)).length = a.length := by simp
    have s1 : ∀ v w, setA (a.map (slF n r) ++ v :: b) a.length w = a.map (slF n r) ++ w :: b := fun v w => by
      have := setA_mid (a.map (slF n r)) b v w
      rwa [hm] at this
    have hg : getA (a.map (slF n r) ++ x :: b) a.length 0 = x := by
      have := getA_right (a.map (slF n r)) (x :: b) 0
      rw [hm] at this
      exact this
    have hrun : (st_d2 (hd_d2 n r (a.map (slF n r) ++ x :: b) (o.length : Int) (a.length : Int))).run = some (.inl (hd_d2 n r ((a ++ [x]).map (slF n r) ++ b) (o.length : Int) ((a ++ [x]).length : Int))) := by
      show (sm_d2 n r (a.map (slF n r) ++ x :: b) (o.length : Int) (a.length : Int)).run = _
      unfold sm_d2
      rw [decide_eq_true (show ((a.length : Int) < (o.length : Int)) by omega), inO_ok (by simp; omega), inO_ok (by simp; omega), show Int.toNat (a.length : Int) = a.length by omega, hg]
      simp only [cond_true]
      unfold x_d2
      rw [show Int.toNat (a.length : Int) = a.length by omega, s1, s1, W64_id (n := (a.length : Int) + 1) (by omega) (by omega)]
      have e : ((a ++ [x]).length : Int) = (a.length : Int) + 1 := by simp
      rw [e, List.map_append]
      by_cases hx : x < n
      · have := h1 hx
        rw [decide_eq_true hx, inO_ok (by omega), inO_ok (by simp; omega), show [x].map (slF n r) = [getA r x.toNat 0] by simp [slF, hx]]
        simp
        rfl
      · rw [decide_eq_false hx, show [x].map (slF n r) = [-1] by simp [slF, hx]]
        simp
        rfl
    rw [iter_in hrun]
    exact d2_run n r o ho hr b (a ++ [x]) fuel (by rw [← h]; simp) (by simp at hf; omega)
abbrev s_Draw : PureT := spec [cI, cI, .sl cI] [.sl cI, cI] (fun _ => true) (fun x => ((drwV x.1 x.2.1 x.2.2.1).1, (drwV x.1 x.2.1 x.2.2.1).2, ()))
theorem bad_lot {l : List Int} (h : l.any (p_Lot ()) = false) : ∀ x ∈ l, 0 ≤ x := by
  intro x hx
  rw [List.any_eq_false] at h
  have := h x hx
  unfold p_Lot at this
  simpa using this
theorem wB_ok {n : Nat} (h2 : 2 ≤ n) (h64 : n ≤ 64) (r : List Int) (hr : r.length = n) : (w_dw n r).sat (fun y => y = ((ordT (szI n).toNat).map (slF n r), 0, ())) := by
  obtain ⟨z1, z2, z3, z4, z5⟩ := sz_ok n h64 h2
  obtain ⟨o1, o2⟩ := ord_ok z2
  have hz := pow_in z2
  unfold w_dw
  rw [W64_id (n := (n : Int) - 1) (by omega) (by omega), wrapU (n := (n : Int) - 1) (by omega) (by omega)]
  unfold u_dw
  refine sat_must (decide_eq_true (by omega)) ?_
  rw [show Int.toNat ((n : Int) - 1) = n - 1 by omega]
  unfold b_dw
  refine sat_must (decide_eq_true z5) ?_
  rw [z1]
  unfold o_dw
  refine sat_must z2 ?_
  have := d2_run n r (ordT (szI n).toNat) (by omega) (fun x hx => ⟨(o2 x hx).1, fun h => by omega⟩) (ordT (szI n).toNat) [] ((ordT (szI n).toNat).length + 1) rfl (by omega)
  rw [show ([] : List Int).map (slF n r) ++ ordT (szI n).toNat = ordT (szI n).toNat from rfl, show ((([] : List Int).length : Nat) : Int) = 0 from rfl] at this
  rw [this]
  exact rfl
theorem T_dw_ok (n k : Int) (l : List Int) : (T_dw n k l).sat (fun y => y = ((drwV n k l).1, (drwV n k l).2, ())) := by
  unfold T_dw drwV
  refine sat_cond (fun h => ?_) (fun h => ?_)
  · rw [h]; exact rfl
  refine sat_cond (fun h2 => ?_) (fun h2 => ?_)
  · rw [h, h2]; exact rfl
  refine sat_cond (fun h3 => ?_) (fun h3 => ?_)
  · rw [h, h2, h3]; exact rfl
  refine sat_cond (fun h4 => ?_) (fun h4 => ?_)
  · rw [h, h2, h3, h4]; exact rfl
  rw [h, h2, h3, h4]
  have h := of_decide_eq_false h
  have h2 := of_decide_eq_false h2
  have h3 := of_decide_eq_false h3
  have h4 := of_decide_eq_false h4
  obtain ⟨N, rfl⟩ := Int.eq_ofNat_of_zero_le (show 0 ≤ n by omega)
  obtain ⟨K, rfl⟩ := Int.eq_ofNat_of_zero_le (show 0 ≤ k by omega)
  rw [W64_id (n := (N : Int) - K) (by omega) (by omega)]
  simp only [Bool.or_false, cond_false]
  refine sat_cond (fun h5 => ?_) (fun h5 => ?_)
  · rw [h5]; exact rfl
  rw [h5]
  have hlen : (l.length : Int) = (N : Int) - K := by simpa using h5
  refine sat_cond (fun h6 => ?_) (fun h6 => ?_)
  · rw [h6]; exact rfl
  rw [h6]
  unfold mk8
  refine sat_must (decide_eq_true (by omega)) ?_
  rw [show Int.toNat (N : Int) = N by omega]
  have hb := bad_lot h6
  have a0 := d0_run N K l N (by omega) N 0 (N + 1) (by omega) (by omega)
  rw [show rgI 0 0 ++ List.replicate N 0 = List.replicate N 0 from rfl, show ((0 : Nat) : Int) = 0 from rfl] at a0
  unfold r_dw
  rw [List.length_replicate, a0]
  show (v0_dw N K l (rgI 0 N)).sat _
  unfold v0_dw
  have hs := rgI_split K (N - K) 0
  rw [show K + (N - K) = N by omega, Nat.zero_add] at hs
  have a1 := d1_run N K l (by omega) hb (by omega) l 0 (rgI 0 K) (rgI K (N - K)) (l.length + 1) rfl (by omega) (by rw [rgI_len]; rfl) (by rw [rgI_len]; omega) (by omega)
  rw [show ((0 : Nat) : Int) = 0 from rfl] at a1
  rw [hs, a1]
  obtain ⟨s1, s2⟩ := shS_len l (rgI 0 K) (rgI K (N - K)) hb (by rw [rgI_len]; omega)
  rw [rgI_len, rgI_len] at s2
  rw [s1, List.append_nil]
  have := wB_ok (by omega) (by omega) ((l.foldl shS (rgI 0 K, rgI K (N - K))).1) (n := N) (by omega)
  show (w_dw N _).sat _
  rw [show rkF N K l = (l.foldl shS (rgI 0 K, rgI K (N - K))).1 by unfold rkF; rw [show Int.toNat (K : Int) = K by omega, show Int.toNat ((N : Int) - K) = N - K by omega]]
  exact this
/-! contexts -/
theorem l_d0 : LoopOk Try.prog 20 lb_d0 (loopSum L_d0 E_d0 (finX [.exit 0] st_d0 fu_d0)) := loopOk_x0 XDw_ok 6 _ L_d0 E_d0 (fun _ => Nat.le_refl _) [.exit 0] _ fu_d0 e_d0
theorem l_d1 : LoopOk Try.prog 20 lb_d1 (loopSum L_d1 E_d1 (finX [.exit 2] st_d1 fu_d1)) := loopOk_x0 XDw_ok 6 _ L_d1 E_d1 (fun _ => Nat.le_refl _) [.exit 2] _ fu_d1 e_d1
theorem l_d2 : LoopOk Try.prog 20 lb_d2 (loopSum L_d2 E_d2 (finX [.exit 4] st_d2 fu_d2)) := loopOk_x0 XDw_ok 6 _ L_d2 E_d2 (fun _ => Nat.le_refl _) [.exit 4] _ fu_d2 e_d2
theorem X_dw_ok : CtxOk X_dw := ctxS_ok mixed puDw (fns_cons is_eDraw fns_nil) (loops_cons (loops_of (ds := [lb_d0, lb_d1, lb_d2]) (by kernel_rfl) ⟨one_key (k := 9) (by kernel_rfl) rfl l_d0, one_key (k := 14) (by kernel_rfl) rfl l_d1, one_key (k := 24) (by kernel_rfl) rfl l_d2, trivial⟩) loops_nil) (fun p hp => by
  rw [List.mem_singleton] at hp
  subst hp
  exact ⟨is_eord.plain, sp_or⟩)
theorem q_Draw : PureOk Try.prog 20 s_Draw := q_by X_dw_ok 6 (fun x => T_dw x.1 x.2.1 x.2.2.1) T_dw_eq fun x _ _ => T_dw_ok x.1 x.2.1 x.2.2.1
/-! the reference -/
theorem e0_run (n k : Int) (l : List Int) (hw : (l.length : Int) ≤ maxK .i64) : iter st_e0 (l.length + 1) (hd_e0 n k l 0) = some (bif l.any (p_Lot ()) then rt_e0 else ex_e0 n k l) :=
  iter_bad (st := st_e0) l 0 (fun i => hd_e0 n k l i) (p_Lot ()) rt_e0 (ex_e0 n k l) hw fun i => rfl
theorem e1_run (n k : Nat) (l : List Int) (hn : n ≤ 64) (hk : k ≤ n) : ∀ (j i fuel : Nat), i + j = n → j < fuel → iter st_e1 fuel (hd_e1 n k l (rgI 0 (min i k)) (rgI k (i - k)) i) = some (ex_e1 n l (rgI 0 k) (rgI k (n - k)))
  | 0, i, fuel + 1, h, _ => by
    refine iter_out ?_
    have e : i = n := by omega
    subst e
    show (sm_e1 i k l _ _ i).run = _
    unfold sm_e1
    rw [decide_eq_false (show ¬ ((i : Int) < (i : Int)) by omega), show min i k = k by omega]
    rfl
  | j + 1, i, fuel + 1, h, hf => by
    have hrun : (st_e1 (hd_e1 n k l (rgI 0 (min i k)) (rgI k (i - k)) i)).run = some (.inl (hd_e1 n k l (rgI 0 (min (i + 1) k)) (rgI k (i + 1 - k)) ((i + 1 : Nat) : Int))) := by
      show (sm_e1 n k l (rgI 0 (min i k)) (rgI k (i - k)) i).run = _
      unfold sm_e1
      rw [decide_eq_true (show ((i : Int) < (n : Int)) by omega), W64_id (n := (i : Int) + 1) (by omega) (by omega)]
      by_cases hik : i < k
      · rw [decide_eq_true (show ((i : Int) < (k : Int)) by omega), app_ok (by rw [rgI_len]; simp; omega) (by omega), show min i k = i by omega, show min (i + 1) k = i + 1 by omega, rgI_snoc i 0, show i - k = 0 by omega, show i + 1 - k = 0 by omega, Nat.zero_add]
        rfl
      · rw [decide_eq_false (show ¬ ((i : Int) < (k : Int)) by omega), app_ok (h := rgI k (i - k)) (by rw [rgI_len]; simp; omega) (by omega), show min i k = k by omega, show min (i + 1) k = k by omega, show i + 1 - k = (i - k) + 1 by omega, rgI_snoc (i - k) k, show k + (i - k) = i by omega]
        rfl
    rw [iter_in hrun]
    exact e1_run n k l hn hk j (i + 1) fuel (by omega) (by omega)
theorem e2_run (n : Int) (l : List Int) (hl64 : l.length ≤ 64) (hl0 : ∀ x ∈ l, 0 ≤ x) : ∀ (ls : List Int) (i : Nat) (R L : List Int) (fuel : Nat), l.drop i = ls → i + ls.length = l.length → R.length ≤ 100 + i → L.length = ls.length → ls.length < fuel →
    iter st_e2 fuel (hd_e2 n l R L i) = some (ex_e2 n (ls.foldl shS (R, L)).1)
  | [], i, R, L, fuel + 1, hd, hi, hR, hL, _ => by
    refine iter_out ?_
    show (sm_e2 _ n l R L i).run = _
    unfold sm_e2
    rw [decide_eq_false (show ¬ ((i : Int) < (l.length : Int)) by simp at hi; omega)]
    rfl
  | x :: ls, i, R, L, fuel + 1, hd, hi, hR, hL, hf => by
    have hlt : i < l.length := by simp at hi; omega
    have hx : l[i] = x := by
      rw [List.drop_eq_getElem_cons hlt] at hd
      exact (List.cons.inj hd).1
    have hx0 : 0 ≤ x := hl0 x (by rw [← hx]; exact List.getElem_mem hlt)
    have hd' : l.drop (i + 1) = ls := by
      rw [List.drop_eq_getElem_cons hlt] at hd
      exact (List.cons.inj hd).2
    simp only [List.length_cons] at hi hL hf
    have hm := tmod_lt (m := L.length) hx0 (by omega)
    obtain ⟨j, hj⟩ : ∃ j : Nat, Int.tmod x L.length = j := ⟨(Int.tmod x L.length).toNat, by omega⟩
    rw [hj] at hm
    have hs : shS (R, L) x = (R ++ [getA L j 0], L.take j ++ L.drop (j + 1)) := by
      unfold shS
      simp only
      rw [hj]
      rfl
    have w1 : wnL L 0 j = L.take j := by unfold wnL; simp
    have w2 : wnL L ((j : Int) + 1) (L.length : Int) = L.drop (j + 1) := by
      unfold wnL
      rw [show Int.toNat ((j : Int) + 1) = j + 1 by omega, show Int.toNat (L.length : Int) = L.length by omega, List.take_of_length_le (by simp)]
    have hrun : (st_e2 (hd_e2 n l R L i)).run = some (.inl (hd_e2 n l (R ++ [getA L j 0]) (L.take j ++ L.drop (j + 1)) ((i + 1 : Nat) : Int))) := by
      show (sm_e2 (fun _ t => t) n l R L i).run = _
      unfold sm_e2
      rw [decide_eq_true (show ((i : Int) < (l.length : Int)) by omega), inN_ok (by omega), show Int.toNat (i : Int) = i by omega, getA_lt hlt, hx, hj, show ((L.length : Int) != 0) = true by rw [bne_iff_ne]; omega]
      simp only [cond_true]
      unfold t1_e2
      rw [inO_ok (by omega), app_ok (by simp; omega) (by omega)]
      simp only [cond_true]
      unfold t2_e2 wn_d1
      rw [decide_eq_true (show 0 ≤ (0 : Int) ∧ (0 : Int) ≤ (j : Int) ∧ (j : Int) ≤ (L.length : Int) by omega), W64_id (n := (j : Int) + 1) (by omega) (by omega), decide_eq_true (show 0 ≤ (j : Int) + 1 ∧ (j : Int) + 1 ≤ (L.length : Int) ∧ (L.length : Int) ≤ (L.length : Int) by omega)]
      simp only [cond_true]
      rw [w1, app_ok (by simp; omega) (by omega)]
      simp only [cond_true]
      unfold t3_e2
      rw [W64_id (n := (j : Int) + 1) (by omega) (by omega), w2, app_ok (by simp; omega) (by omega), W64_id (n := (i : Int) + 1) (by omega) (by omega)]
      rfl
    rw [iter_in hrun, e2_run n l hl64 hl0 ls (i + 1) _ _ fuel hd' (by omega) (by simp; omega) (by simp; omega) (by omega), List.foldl_cons, hs]
theorem e3_in {n : Int} {R : List Int} {z : Int} {f : Nat} (h : z < n) (hz : z ≤ 64) (h0 : 0 ≤ z) : iter st_e3 (f + 1) (hd_e3 n R z) = iter st_e3 f (hd_e3 n R (2 * z)) := by
  refine iter_in ?_
  show (sm_e3 n R z).run = _
  unfold sm_e3
  rw [decide_eq_true h, W64_id (n := 2 * z) (by omega) (by omega)]
  rfl
theorem e3_out {n : Int} {R : List Int} {z : Int} {f : Nat} (h : n ≤ z) : iter st_e3 (f + 1) (hd_e3 n R z) = some (ex_e3 n R z) := by
  refine iter_out ?_
  show (sm_e3 n R z).run = _
  unfold sm_e3
  rw [decide_eq_false (by omega)]
  rfl
theorem e3_run (n : Int) (R : List Int) (hn : n ≤ 64) : iter st_e3 8 (hd_e3 n R 1) = some (ex_e3 n R (szI n)) := by
  unfold szI
  by_cases h1 : n ≤ 1
  · rw [decide_eq_true h1]; exact e3_out h1
  rw [decide_eq_false h1, e3_in (by omega) (by omega) (by omega)]
  by_cases h2 : n ≤ 2
  · rw [decide_eq_true h2]; exact e3_out h2
  rw [decide_eq_false h2, e3_in (by omega) (by omega) (by omega)]
  by_cases h3 : n ≤ 4
  · rw [decide_eq_true h3]; exact e3_out h3
  rw [decide_eq_false h3, e3_in (by omega) (by omega) (by omega)]
  by_cases h4 : n ≤ 8
  · rw [decide_eq_true h4]; exact e3_out h4
  rw [decide_eq_false h4, e3_in (by omega) (by omega) (by omega)]
  by_cases h5 : n ≤ 16
  · rw [decide_eq_true h5]; exact e3_out h5
  rw [decide_eq_false h5, e3_in (by omega) (by omega) (by omega)]
  by_cases h6 : n ≤ 32
  · rw [decide_eq_true h6]; exact e3_out h6
  rw [decide_eq_false h6, e3_in (by omega) (by omega) (by omega)]
  exact e3_out (by omega)
theorem e4_run (n : Int) (r : List Int) (o : List Int) (ho : o.length ≤ 64) (hr : ∀ x ∈ o, 0 ≤ x ∧ (x < n → x < r.length)) : ∀ (b a : List Int) (fuel : Nat), a ++ b = o → b.length < fuel →
    iter st_e4 fuel (hd_e4 n r (o.length : Int) o (a.map (slF n r)) (a.length : Int)) = some (ex_e4 (o.map (slF n r)))
  | [], a, fuel + 1, h, _ => by
    refine iter_out ?_
    rw [List.append_nil] at h
    subst h
    show (sm_e4 n r (a.length : Int) a _ (a.length : Int)).run = _
    unfold sm_e4
    rw [decide_eq_false (show ¬ ((a.length : Int) < (a.length : Int)) by omega)]
    rfl
  | x :: b, a, fuel + 1, h, hf => by
    have hl : a.length + (b.length + 1) = o.length := by rw [← h]; simp
    obtain ⟨h0, h1⟩ := hr x (by rw [← h]; simp)
    have hg : getA o a.length 0 = x := by
      have := getA_right a (x :: b) 0
      rw [h] at this
      exact this
    have hrun : (st_e4 (hd_e4 n r (o.length : Int) o (a.map (slF n r)) (a.length : Int))).run = some (.inl (hd_e4 n r (o.length : Int) o ((a ++ [x]).map (slF n r)) ((a ++ [x]).length : Int))) := by
      show (sm_e4 n r (o.length : Int) o (a.map (slF n r)) (a.length : Int)).run = _
      unfold sm_e4
      rw [decide_eq_true (show ((a.length : Int) < (o.length : Int)) by omega), inN_ok (by omega), show Int.toNat (a.length : Int) = a.length by omega, hg]
      simp only [cond_true]
      unfold x_e4
      have e : ((a ++ [x]).length : Int) = (a.length : Int) + 1 := by simp
      rw [e, List.map_append, inN_ok (by omega), W64_id (n := (a.length : Int) + 1) (by omega) (by omega)]
      by_cases hx : x < n
      · have := h1 hx
        rw [decide_eq_true hx, inO_ok (by omega), app_ok (by simp; omega) (by omega), show [x].map (slF n r) = [getA r x.toNat 0] by simp [slF, hx]]
        rfl
      · rw [decide_eq_false hx, app_ok (h := a.map (slF n r)) (w := [(-1 : Int)]) (by simp; omega) (by omega), show [x].map (slF n r) = [-1] by simp [slF, hx]]
        rfl
    rw [iter_in hrun]
    exact e4_run n r o ho hr b (a ++ [x]) fuel (by rw [← h]; simp) (by simp at hf; omega)
theorem T_ew_ok (n k : Int) (l : List Int) (hw : (l.length : Int) ≤ maxK .i64) : (T_ew n k l).sat (fun y => y = ((drwV n k l).1, (drwV n k l).2, ())) := by
  unfold T_ew drwV
  refine sat_cond (fun h => ?_) (fun h => ?_)
  · rw [h]; exact rfl
  refine sat_cond (fun h2 => ?_) (fun h2 => ?_)
  · rw [h, h2]; exact rfl
  refine sat_cond (fun h3 => ?_) (fun h3 => ?_)
  · rw [h, h2, h3]; exact rfl
  refine sat_cond (fun h4 => ?_) (fun h4 => ?_)
  · rw [h, h2, h3, h4]; exact rfl
  rw [h, h2, h3, h4]
  have h := of_decide_eq_false h
  have h2 := of_decide_eq_false h2
  have h3 := of_decide_eq_false h3
  have h4 := of_decide_eq_false h4
  obtain ⟨N, rfl⟩ := Int.eq_ofNat_of_zero_le (show 0 ≤ n by omega)
  obtain ⟨K, rfl⟩ := Int.eq_ofNat_of_zero_le (show 0 ≤ k by omega)
  rw [W64_id (n := (N : Int) - K) (by omega) (by omega)]
  simp only [Bool.or_false, cond_false]
  refine sat_cond (fun h5 => ?_) (fun h5 => ?_)
  · rw [h5]; exact rfl
  rw [h5, e0_run N K l hw]
  have hlen : (l.length : Int) = (N : Int) - K := by simpa using h5
  cases h6 : l.any (p_Lot ()) with
  | true => exact rfl
  | false =>
    have hb := bad_lot h6
    show (v0_ew N K l).sat _
    unfold v0_ew
    have a1 := e1_run N K l (by omega) (by omega) N 0 (N + 1) (by omega) (by omega)
    rw [show rgI 0 (min 0 K) = [] by rw [Nat.zero_min]; rfl, show rgI K (0 - K) = [] by rw [Nat.zero_sub]; rfl, show ((0 : Nat) : Int) = 0 from rfl] at a1
    rw [show Int.toNat (N : Int) = N by omega, a1]
    show (v1_ew N l (rgI 0 K) (rgI K (N - K))).sat _
    unfold v1_ew
    have a2 := e2_run N l (by omega) hb l 0 (rgI 0 K) (rgI K (N - K)) (l.length + 1) rfl (by omega) (by rw [rgI_len]; omega) (by rw [rgI_len]; omega) (by omega)
    rw [show ((0 : Nat) : Int) = 0 from rfl] at a2
    rw [a2]
    obtain ⟨s1, s2⟩ := shS_len l (rgI 0 K) (rgI K (N - K)) hb (by rw [rgI_len]; omega)
    rw [rgI_len, rgI_len] at s2
    have er : rkF N K l = (l.foldl shS (rgI 0 K, rgI K (N - K))).1 := by unfold rkF; rw [show Int.toNat (K : Int) = K by omega, show Int.toNat ((N : Int) - K) = N - K by omega]
    rw [← er] at s2 ⊢
    show (v2_ew N (rkF N K l)).sat _
    unfold v2_ew
    rw [e3_run N _ (by omega)]
    show (o_ew N (rkF N K l) (szI N)).sat _
    obtain ⟨z1, z2, z3, z4, z5⟩ := sz_ok N (by omega) (by omega)
    obtain ⟨o1, o2⟩ := ord_ok z2
    have hz := pow_in z2
    unfold o_ew
    refine sat_must z2 ?_
    have a4 := e4_run N (rkF N K l) (ordT (szI N).toNat) (by omega) (fun x hx => ⟨(o2 x hx).1, fun h => by omega⟩) (ordT (szI N).toNat) [] ((szI N).toNat + 1) rfl (by omega)
    rw [o1, show (([] : List Int).map (slF N (rkF N K l))) = [] from rfl, show ((([] : List Int).length : Nat) : Int) = 0 from rfl] at a4
    rw [a4]
    exact rfl
theorem l_e0 : LoopOk Try.prog 27 lb_e0 (loopSum L_e0 E_e0 (finX [.ret, .exit 0] st_e0 fu_e0)) := loopOk_x0 XEw_ok 6 _ L_e0 E_e0 (fun e => by cases e <;> exact Nat.le_refl _) [.ret, .exit 0] _ fu_e0 e_e0
theorem l_e1 : LoopOk Try.prog 27 lb_e1 (loopSum L_e1 E_e1 (finX [.exit 2] st_e1 fu_e1)) := loopOk_x0 XEw_ok 6 _ L_e1 E_e1 (fun _ => Nat.le_refl _) [.exit 2] _ fu_e1 e_e1
set_option maxRecDepth 100000 in
theorem l_e2 : LoopOk Try.prog 27 lb_e2 (loopSum L_e2 E_e2 (finX [.exit 4] st_e2 fu_e2)) := loopOk_xW XEw_ok 6 _ [] (fun _ => none) (fun _ _ f h => by simp at h) L_e2 E_e2 (fun _ => Nat.le_refl _) [.exit 4] _ fu_e2 e_e2
theorem l_e3 : LoopOk Try.prog 27 lb_e3 (loopSum L_e3 E_e3 (finX [.exit 6] st_e3 fu_e3)) := loopOk_x0 XEw_ok 6 _ L_e3 E_e3 (fun _ => Nat.le_refl _) [.exit 6] _ fu_e3 e_e3
theorem l_e4 : LoopOk Try.prog 27 lb_e4 (loopSum L_e4 E_e4 (finX [.exit 8] st_e4 fu_e4)) := loopOk_x0 XEw_ok 6 _ L_e4 E_e4 (fun _ => Nat.le_refl _) [.exit 8] _ fu_e4 e_e4
theorem X_ew_ok : CtxOk X_ew := ctxL_ok mixed puEw (fns_cons is_rDraw fns_nil) (loops_cons (loops_of (ds := [lb_e0, lb_e1, lb_e2, lb_e3, lb_e4]) (by kernel_rfl) ⟨one_key (k := 6) (by kernel_rfl) rfl l_e0, one_key (k := 12) (by kernel_rfl) rfl l_e1, one_key (k := 18) (by kernel_rfl) rfl l_e2, one_key (k := 24) (by kernel_rfl) rfl l_e3, one_key (k := 29) (by kernel_rfl) rfl l_e4, trivial⟩) loops_nil)
theorem q_rDraw : PureOk Try.prog 27 s_Draw := q_by X_ew_ok 6 (fun x => T_ew x.1 x.2.1 x.2.2.1) T_ew_eq fun x _ hw => T_ew_ok x.1 x.2.1 x.2.2.1 hw.2.2.1.1
end Ev
end V
end Go.Proofs.Ytgchccljmjmibaa
