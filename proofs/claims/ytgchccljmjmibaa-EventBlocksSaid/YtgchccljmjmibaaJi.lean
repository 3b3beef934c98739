/- Chapter 11: places, in the reference: the contract. -/
import Derived.Test.YtgchccljmjmibaaJh
namespace Go.Proofs.Ytgchccljmjmibaa
open Go.RowKit
namespace V
namespace Ev
open Go.Sort (insertionSort PermIn SortedIn SWO Below)
/-- where a player is put -/
def psF (z : BAm) (a : Int) (o : List Int) : Nat := o.findIdx fun x => ltV z (gR z.1 a) (gR z.1 x)
def inF (z : BAm) (o : List Int) (a : Int) : List Int := o.take (psF z a o) ++ [a] ++ o.drop (psF z a o)
theorem psF_le (z : BAm) (a : Int) (o : List Int) : psF z a o ≤ o.length := List.findIdx_le_length
theorem inF_len (z : BAm) (o : List Int) (a : Int) : (inF z o a).length = o.length + 1 := by
  have := psF_le z a o
  unfold inF
  simp
  omega
theorem v1_run (n : Int) (l : LSh) (t : Rows) (o : List Int) (a : Int) (hl : o.length ≤ 100) (ha : okA n t a = true) (ho : ∀ x ∈ o, okA n t x = true) : iter st_v1 (o.length + 1) (hd_v1 n l t o a 0) = some (ex_v1 n l t o a (psF (t, n, cntM l) a o : Nat)) := by
  have := iter_find (st := st_v1) o (fun k => hd_v1 n l t o a k) (fun x => ltV (t, n, cntM l) (gR t a) (gR t x)) (fun k => ex_v1 n l t o a k) (ex_v1 n l t o a o.length) (fun i hi => by
    show (sm_v1 n l t o a i).run = _
    unfold sm_v1 okH
    rw [decide_eq_true (show (i : Int) < (o.length : Int) by omega), cond_true, inO_in hi, show Int.toNat (i : Int) = i by omega, getA_lt hi, ha, ho _ (List.getElem_mem hi), W64_id (n := (i : Int) + 1) (by omega) (by omega)]
    show _ = some (bif befV n (cntM l) t (gR t a) (gR t o[i]) then _ else _)
    cases befV n (cntM l) t (gR t a) (gR t o[i]) <;> rfl) (by
    show (sm_v1 n l t o a o.length).run = _
    unfold sm_v1
    rw [decide_eq_false (show ¬ (o.length : Int) < (o.length : Int) by omega)]
    rfl)
  rw [this]
  congr 1
  cases h : o.any (fun x => ltV (t, n, cntM l) (gR t a) (gR t x)) with
  | true => rfl
  | false =>
    have : psF (t, n, cntM l) a o = o.length := by
      unfold psF
      rw [List.findIdx_eq_length]
      intro x hx
      have := List.any_eq_false.1 h x hx
      simpa using this
    rw [this]
    rfl
theorem v0_step (n : Int) (l : LSh) (t : Rows) (o : List Int) (a : Nat) (hl : o.length ≤ 100) (ha : okA n t a = true) (ho : ∀ x ∈ o, okA n t x = true) (han : (a : Int) < n) (hn : n ≤ 16) :
    (sm_v0 (fun _ t => t) n l t o a).run = some (.inl (hd_v0 n l t (inF (t, n, cntM l) o a) ((a + 1 : Nat) : Int))) := by
  have hp := psF_le (t, n, cntM l) a o
  have e1 : wdL o 0 (psF (t, n, cntM l) a o : Nat) = o.take (psF (t, n, cntM l) a o) := by
    unfold wdL
    rw [show Int.toNat 0 = 0 from rfl, List.drop_zero, show Int.toNat ((psF (t, n, cntM l) a o : Nat) : Int) - 0 = psF (t, n, cntM l) a o by omega]
  have e2 : wdL o (psF (t, n, cntM l) a o : Nat) (o.length : Int) = o.drop (psF (t, n, cntM l) a o) := by
    unfold wdL
    rw [show Int.toNat ((psF (t, n, cntM l) a o : Nat) : Int) = psF (t, n, cntM l) a o by omega, List.take_of_length_le (by simp)]
  unfold sm_v0
  rw [decide_eq_true han, cond_true, v1_run n l t o a hl ha ho]
  show (t1_v0 (fun _ t => t) n l t o a (psF (t, n, cntM l) a o : Nat)).run = _
  unfold t1_v0 wdT
  rw [e1, decide_eq_true (by omega), decide_eq_true (by omega), app_ok (by simp; omega) (by omega)]
  simp only [cond_true]
  unfold t2_v0
  rw [app_ok (by simp; omega) (by omega), cond_true]
  unfold t3_v0
  rw [e2, app_ok (by simp; omega) (by omega), W64_id (n := (a : Int) + 1) (by omega) (by omega)]
  rfl
theorem okRows_tb (n : Int) (m : cMp) : okRows n (tbV n m) = true := by
  unfold okRows
  rw [Bool.and_eq_true, List.all_eq_true]
  refine ⟨decide_eq_true (tbV_len n m), fun i hi => ?_⟩
  have hi := List.mem_range.1 hi
  rw [beq_iff_eq]
  have hp := tbV_pl n m
  have h1 : i < (tbV n m).length := by rw [tbV_len]; exact hi
  have : (plL (tbV n m))[i]'(by rw [plL_len]; exact h1) = (i : Int) := by simp [hp]
  unfold gR
  rw [show Int.toNat (i : Int) = i by omega, getA_lt h1]
  unfold plL at this
  rw [List.getElem_map] at this
  exact this
theorem okA_tb (n : Int) (m : cMp) (h2 : 2 ≤ n) (hn : n ≤ 16) (x : Int) (h0 : 0 ≤ x) (h1 : x < n) : okA n (tbV n m) x = true := by
  unfold okA
  rw [okRows_tb, decide_eq_true ⟨h2, hn, h0, h1⟩]
  rfl
def rgC (k : Nat) : List Int := (List.range k).map fun (i : Nat) => (i : Int)
theorem rgC_mem {k : Nat} {x : Int} : x ∈ rgC k ↔ 0 ≤ x ∧ x < (k : Int) := by
  unfold rgC
  rw [List.mem_map]
  constructor
  · rintro ⟨i, hi, rfl⟩
    have := List.mem_range.1 hi
    omega
  · rintro ⟨h1, h2⟩
    exact ⟨x.toNat, List.mem_range.2 (by omega), by omega⟩
theorem rgC_succ (k : Nat) : rgC (k + 1) = rgC k ++ [(k : Int)] := by unfold rgC; rw [List.range_succ, List.map_append]; rfl
/-- players in order -/
structure InvP (z : BAm) (i : Nat) (o : List Int) : Prop where
  perm : o.Perm (rgC i)
  ord : o.Pairwise fun x y => ltV z (gR z.1 x) (gR z.1 y) = true
theorem invP_step {n : Int} {m : cMp} (h2 : 2 ≤ n) (hn : n ≤ 16) {i : Nat} {o : List Int} (hi : (i : Int) < n) (h : InvP (tbV n m, n, m) i o) : InvP (tbV n m, n, m) (i + 1) (inF (tbV n m, n, m) o i) := by
  have hs := swo (tbV n m, n, m)
  have hrow : ∀ x : Int, 0 ≤ x → x < n → ((gR (tbV n m) x).1 : Int) = x := fun x h0 h1 => (okA_in (okA_tb n m h2 hn x h0 h1)).2.2.2.2.2.2
  have hin : ∀ x ∈ o, 0 ≤ x ∧ x < (i : Int) := fun x hx => rgC_mem.1 (h.perm.mem_iff.1 hx)
  have hpl : ∀ x : Int, 0 ≤ x → x < n → plOk (gR (tbV n m) x) := fun x h0 h1 => by
    have := hrow x h0 h1
    have h3 : x ≤ 100 := by omega
    unfold plOk
    rw [this]
    exact ⟨h0, h3⟩
  have hsp : o.take (psF (tbV n m, n, m) i o) ++ o.drop (psF (tbV n m, n, m) i o) = o := List.take_append_drop _ _
  have hord := h.ord
  rw [← hsp, List.pairwise_append] at hord
  have hbef : ∀ x ∈ o.take (psF (tbV n m, n, m) i o), ltV (tbV n m, n, m) (gR (tbV n m) x) (gR (tbV n m) i) = true := by
    intro x hx
    obtain ⟨k, hk, rfl⟩ := List.mem_iff_getElem.1 hx
    have hk1 : k < psF (tbV n m, n, m) i o := by simp at hk; omega
    have hk2 : k < o.length := by simp at hk; omega
    rw [List.getElem_take]
    have hb := List.not_of_lt_findIdx hk1
    obtain ⟨g1, g2⟩ := hin _ (List.getElem_mem hk2)
    rcases lt_tot (tbV n m, n, m) (gR (tbV n m) o[k]) (gR (tbV n m) i) (hpl _ g1 (by omega)) (hpl _ (by omega) hi) (by
      rw [hrow _ g1 (by omega), hrow _ (by omega) hi]
      have h4 : (o[k] : Int) ≠ (i : Int) := by omega
      exact h4) with h3 | h3
    · exact h3
    · exact absurd h3 (by simpa using hb)
  have haft : ∀ x ∈ o.drop (psF (tbV n m, n, m) i o), ltV (tbV n m, n, m) (gR (tbV n m) i) (gR (tbV n m) x) = true := by
    intro x hx
    obtain ⟨k, hk, rfl⟩ := List.mem_iff_getElem.1 hx
    have hk2 : psF (tbV n m, n, m) i o + k < o.length := by simp at hk; omega
    rw [List.getElem_drop]
    have hp : psF (tbV n m, n, m) i o < o.length := by omega
    have hf : ltV (tbV n m, n, m) (gR (tbV n m) i) (gR (tbV n m) (o[psF (tbV n m, n, m) i o]'hp)) = true := List.findIdx_getElem (w := hp)
    rcases Nat.eq_zero_or_pos k with h0 | h0
    · subst h0
      exact hf
    · have := List.pairwise_iff_getElem.1 h.ord (psF (tbV n m, n, m) i o) (psF (tbV n m, n, m) i o + k) hp hk2 (by omega)
      exact hs.trans _ _ _ hf this
  refine ⟨?_, ?_⟩
  · rw [rgC_succ]
    unfold inF
    rw [List.append_assoc]
    show (o.take (psF (tbV n m, n, m) i o) ++ (i : Int) :: o.drop (psF (tbV n m, n, m) i o)).Perm _
    refine (List.perm_middle).trans ?_
    rw [hsp]
    exact (List.Perm.cons _ h.perm).trans (List.perm_append_singleton _ _).symm
  · unfold inF
    rw [List.append_assoc, List.pairwise_append]
    refine ⟨hord.1, ?_, fun x hx y hy => ?_⟩
    · show List.Pairwise _ ((i : Int) :: o.drop _)
      rw [List.pairwise_cons]
      exact ⟨haft, hord.2.1⟩
    · rcases List.mem_cons.1 (show y ∈ (i : Int) :: o.drop _ from hy) with rfl | hy
      · exact hbef x hx
      · exact hord.2.2 x hx y hy
theorem invP_all {n : Int} {m : cMp} (h2 : 2 ≤ n) (hn : n ≤ 16) : ∀ k : Nat, k ≤ n.toNat → InvP (tbV n m, n, m) k ((List.range k).foldl (fun o (a : Nat) => inF (tbV n m, n, m) o a) [])
  | 0, _ => ⟨List.Perm.refl _, List.Pairwise.nil⟩
  | k + 1, hk => by
    rw [List.range_succ, List.foldl_append]
    exact invP_step h2 hn (by omega) (invP_all h2 hn k (by omega))
theorem v0_run (n : Int) (l : LSh) (h2 : 2 ≤ n) (hn : n ≤ 16) : iter st_v0 (n.toNat + 1) (hd_v0 n l (tbV n (cntM l)) [] 0) = some (ex_v0 ((List.range n.toNat).foldl (fun o (a : Nat) => inF (tbV n (cntM l), n, cntM l) o a) [])) := by
  have h := iter_foldl (st := st_v0) (List.range n.toNat) (fun i o => hd_v0 n l (tbV n (cntM l)) o i) (fun o (a : Nat) => inF (tbV n (cntM l), n, cntM l) o a) ex_v0 (fun i o => InvP (tbV n (cntM l), n, cntM l) i o) (fun i o hi hv => ?_) (fun o _ => ?_) [] ⟨List.Perm.refl _, List.Pairwise.nil⟩
  · rw [List.length_range] at h
    exact h
  · rw [List.length_range] at hi
    rw [List.getElem_range]
    have hlen : o.length = i := by rw [hv.perm.length_eq]; unfold rgC; simp
    refine ⟨?_, invP_step h2 hn (by omega) hv⟩
    exact v0_step n l (tbV n (cntM l)) o i (by omega) (okA_tb n _ h2 hn i (by omega) (by omega)) (fun x hx => by
      have := rgC_mem.1 (hv.perm.mem_iff.1 hx)
      exact okA_tb n _ h2 hn x this.1 (by omega)) (by omega) hn
  · rw [List.length_range]
    show (sm_v0 (fun _ t => t) n l (tbV n (cntM l)) o (n.toNat : Int)).run = _
    unfold sm_v0
    rw [decide_eq_false (show ¬ ((n.toNat : Nat) : Int) < n by omega)]
    rfl
theorem plc_eq (n : Int) (m : cMp) (h2 : 2 ≤ n) (hn : n ≤ 16) (o : List Int) (h : InvP (tbV n m, n, m) n.toNat o) : o = (srtV (tbV n m, n, m) (tbV n m)).map fun r => (r.1 : Int) := by
  have hrow : ∀ x : Int, 0 ≤ x → x < n → ((gR (tbV n m) x).1 : Int) = x := fun x h0 h1 => (okA_in (okA_tb n m h2 hn x h0 h1)).2.2.2.2.2.2
  have hin : ∀ x ∈ o, 0 ≤ x ∧ x < n := fun x hx => by
    have := rgC_mem.1 (h.perm.mem_iff.1 hx)
    omega
  have hs := swo (tbV n m, n, m)
  have hpl : ∀ x : Int, 0 ≤ x → x < n → plOk (gR (tbV n m) x) := fun x h0 h1 => by
    have := hrow x h0 h1
    have h3 : x ≤ 100 := by omega
    unfold plOk
    rw [this]
    exact ⟨h0, h3⟩
  have hR : (o.map (gR (tbV n m))).Perm (tbV n m) := by
    refine (h.perm.map _).trans ?_
    have : (rgC n.toNat).map (gR (tbV n m)) = tbV n m := by
      refine List.ext_getElem (by unfold rgC; rw [List.length_map, List.length_map, List.length_range, tbV_len]) fun i g1 g2 => ?_
      have e : (rgC n.toNat)[i]'(by simpa using g1) = (i : Int) := by simp [rgC]
      rw [List.getElem_map, e]
      unfold gR
      rw [show Int.toNat (i : Int) = i by omega, getA_lt g2]
    rw [this]
  have hW : (o.map (gR (tbV n m))).Pairwise fun a b => ltV (tbV n m, n, m) b a = false := by
    refine List.Pairwise.map _ (fun x y hxy => ?_) h.ord
    rw [Bool.eq_false_iff]
    intro h3
    have := hs.trans _ _ _ hxy h3
    rw [hs.irrefl] at this
    cases this
  have hS : (o.map (gR (tbV n m))) = srtV (tbV n m, n, m) (tbV n m) := by
    obtain ⟨i1, i2⟩ := Go.Sort.insertionSort_holds hs (tbV n m).toArray 0 (tbV n m).length (Nat.zero_le _) (by simp)
    have p2 := perm_whole 0 (tbV n m).length (tbV n m).toArray _ (by simp) (Nat.zero_le _) i1
    have s2 := sorted_pw (tbV n m, n, m) _ (by rw [i1.1]; simpa using i2)
    unfold srtV
    refine List.Perm.eq_of_pairwise (fun a b ha hb g1 g2 => ?_) hW s2 (hR.trans (by simpa using p2.symm))
    have hb2 : b ∈ o.map (gR (tbV n m)) := (hR.trans (by simpa using p2.symm)).mem_iff.2 hb
    obtain ⟨x, hx, rfl⟩ := List.mem_map.1 ha
    obtain ⟨y, hy, rfl⟩ := List.mem_map.1 hb2
    obtain ⟨x0, x1⟩ := hin x hx
    obtain ⟨y0, y1⟩ := hin y hy
    by_cases e : x = y
    · rw [e]
    · rcases lt_tot (tbV n m, n, m) (gR (tbV n m) x) (gR (tbV n m) y) (hpl x x0 x1) (hpl y y0 y1) (by rw [hrow x x0 x1, hrow y y0 y1]; exact e) with h3 | h3
      · rw [g2] at h3; cases h3
      · rw [g1] at h3; cases h3
  rw [← hS, List.map_map]
  refine (List.map_id' o).symm.trans (List.map_congr_left fun x hx => ?_)
  exact (hrow x (hin x hx).1 (hin x hx).2).symm
theorem T_rP_ok (n : Int) (l : LSh) : (T_rP n l).sat (fun y => y = (plcV n l, blkV n l, ())) := by
  unfold T_rP plcV
  cases hb : blkV n l != 0 with
  | true => exact rfl
  | false =>
    have h0 : blkV n l = 0 := by simpa [bne] using hb
    obtain ⟨h2, hn, _⟩ := blk_in n l h0
    have ht : tblV n l = tbV n (cntM l) := by unfold tblV; rw [hb]; rfl
    rw [ht, v0_run n l h2 hn, h0]
    have := plc_eq n (cntM l) h2 hn _ (invP_all h2 hn n.toNat (Nat.le_refl _))
    rw [← this]
    exact rfl
theorem q_rPlaces : PureOk Try.prog nRp s_Places := q_by X_rP_ok 6 (fun x => T_rP x.1 x.2.1) T_rP_eq fun x _ _ => T_rP_ok x.1 x.2.1
end Ev
end V
end Go.Proofs.Ytgchccljmjmibaa
