/- Chapter 11: places: the contract. -/
import Derived.Test.YtgchccljmjmibaaGs
namespace Go.Proofs.Ytgchccljmjmibaa
open Go.RowKit
namespace V
namespace Ev
open Go.Sort (insertionSort PermIn SortedIn SWO Below)
/-- the players of rows -/
def plL (l : Rows) : List Int := l.map fun r => (r.1 : Int)
theorem plL_len (l : Rows) : (plL l).length = l.length := List.length_map _
theorem plL_same (l : Rows) (k : Nat) (x : Row) (h : (x.1 : Int) = (getA l k (dflt cRow)).1) : plL (setA l k x) = plL l := by
  unfold plL
  rw [setA_eq, List.map_set]
  rcases Nat.lt_or_ge k l.length with hk | hk
  · rw [getA_lt hk] at h
    rw [h]
    refine List.ext_getElem (by simp) fun i h1 h2 => ?_
    rw [List.getElem_set]
    split
    · rename_i e
      subst e
      rw [List.getElem_map]
    · rfl
  · rw [List.set_eq_of_length_le (by simpa using hk)]
theorem puG_pl (l : Rows) (i v : Int) : plL (puG l i v) = plL l := plL_same l _ _ rfl
theorem puW_pl (l : Rows) (i v : Int) : plL (puW l i v) = plL l := plL_same l _ _ rfl
theorem puN_pl (l : Rows) (i v : Int) : plL (puN l i v) = plL l := plL_same l _ _ rfl
theorem addW_pl (l : Rows) (i p : Int) : plL (addW l i p) = plL l := (puN_pl _ _ _).trans ((puW_pl _ _ _).trans (puG_pl _ _ _))
theorem addL_pl (l : Rows) (i p : Int) : plL (addL l i p) = plL l := (puN_pl _ _ _).trans (puG_pl _ _ _)
theorem winL_pl (l : Rows) (i j p : Int) : plL (winL l i j p) = plL l := (addL_pl _ _ _).trans (addW_pl _ _ _)
theorem tbS_pl (n : Int) (m : cMp) (a : Int) (l : Rows) (b : Int) : plL (tbS n m a l b) = plL l := by
  unfold tbS
  cases m (numW n a b) with
  | none => rfl
  | some s =>
    simp only
    cases (s.2.2.1 == 0) == decide (a < b)
    · exact winL_pl _ _ _ _
    · exact winL_pl _ _ _ _
theorem foldl_pl {β : Type} (f : Rows → β → Rows) (h : ∀ l b, plL (f l b) = plL l) : ∀ (bs : List β) (l : Rows), plL (bs.foldl f l) = plL l
  | [], _ => rfl
  | b :: bs, l => by rw [List.foldl_cons, foldl_pl f h bs, h]
theorem rowF_pl (n : Int) (m : cMp) (a : Nat) (l : Rows) : plL (rowF n m a l) = plL l := foldl_pl _ (fun _ _ => tbS_pl _ _ _ _ _) _ _
theorem plA_pl (l : Rows) (t : Nat) : plL (plA l t) = (plL l).set t (t : Int) := by
  unfold plA plL
  rw [setA_eq, List.map_set, show Int.toNat (t : Int) = t by omega]
theorem rowS_pl (n : Int) (m : cMp) (l : Rows) (a : Nat) : plL (rowS n m l a) = (plL l).set a (a : Int) := by unfold rowS; rw [rowF_pl, plA_pl]
theorem fold_pl (n : Int) (m : cMp) : ∀ (k : Nat) (l : Rows), k ≤ l.length → ∀ (i : Nat) (h : i < (plL ((List.range k).foldl (rowS n m) l)).length), i < k → (plL ((List.range k).foldl (rowS n m) l))[i] = (i : Int)
  | 0, _, _, i, _, hi => by omega
  | k + 1, l, hk, i, h, hi => by
    have e : (List.range (k + 1)).foldl (rowS n m) l = rowS n m ((List.range k).foldl (rowS n m) l) k := by rw [List.range_succ, List.foldl_append]; rfl
    have e2 : plL ((List.range (k + 1)).foldl (rowS n m) l) = (plL ((List.range k).foldl (rowS n m) l)).set k (k : Int) := by rw [e, rowS_pl]
    have hl : (plL ((List.range k).foldl (rowS n m) l)).length = l.length := by rw [plL_len, foldl_len _ (rowS_len n m)]
    have h3 : i < ((plL ((List.range k).foldl (rowS n m) l)).set k (k : Int)).length := by rw [← e2]; exact h
    have e4 : (plL ((List.range (k + 1)).foldl (rowS n m) l))[i] = ((plL ((List.range k).foldl (rowS n m) l)).set k (k : Int))[i] := by simp only [e2]
    rw [e4, List.getElem_set]
    split
    · rename_i hki; rw [hki]
    · exact fold_pl n m k l (by omega) i (by rw [hl]; omega) (by omega)
/-- the players of a table are 0, 1, .. -/
theorem tbV_pl (n : Int) (m : cMp) : plL (tbV n m) = (List.range n.toNat).map fun (i : Nat) => (i : Int) := by
  refine List.ext_getElem (by rw [plL_len, tbV_len]; simp) fun i h1 h2 => ?_
  have hi : i < n.toNat := by simpa using h2
  rw [show (plL (tbV n m))[i] = (i : Int) from fold_pl n m n.toNat (List.replicate n.toNat zR) (by simp) i h1 hi]
  simp
theorem tbV_dif (n : Int) (m : cMp) (hn : n ≤ 16) : difP (tbV n m).toArray := by
  rw [difP_iff]
  have hp := tbV_pl n m
  refine ⟨fun r hr => ?_, ?_⟩
  · have : (r.1 : Int) ∈ plL (tbV n m) := List.mem_map.2 ⟨r, by simpa using hr, rfl⟩
    rw [hp] at this
    obtain ⟨i, hi, he⟩ := List.mem_map.1 this
    have hi := List.mem_range.1 hi
    have h1 : (0 : Int) ≤ (i : Int) := by omega
    have h2 : (i : Int) ≤ 100 := by omega
    exact ⟨he ▸ h1, he ▸ h2⟩
  · show (plL (tbV n m)).Nodup
    rw [hp]
    exact List.Pairwise.map (fun (i : Nat) => (i : Int)) (fun (a b : Nat) (h : a ≠ b) => show (a : Int) ≠ (b : Int) from fun e => h (by omega)) List.nodup_range
theorem sorted_pw (z : BAm) (B : Array Row) (h : SortedIn (ltV z) 0 B.size B) : B.toList.Pairwise fun a b => ltV z b a = false := by
  rw [List.pairwise_iff_getElem]
  intro i j hi hj hij
  have hi' : i < B.size := by simpa using hi
  have hj' : j < B.size := by simpa using hj
  have := h i j (Nat.zero_le _) hij hj'
  rw [arr_get B i hi', arr_get B j hj'] at this
  exact this
/-- there is but one list in order -/
theorem srt_uniq (z : BAm) (A B : Array Row) (hd : difP A) (hp : PermIn 0 A.size A B) (hs : SortedIn (ltV z) 0 A.size B) : B.toList = srtV z A.toList := by
  unfold srtV
  have hl : A.toList.length = A.size := by simp
  rw [hl, show A.toList.toArray = A by simp]
  obtain ⟨i1, i2⟩ := Go.Sort.insertionSort_holds (swo z) A 0 A.size (Nat.zero_le _) (Nat.le_refl _)
  have p1 := perm_whole 0 A.size A B (Nat.le_refl _) (Nat.zero_le _) hp
  have p2 := perm_whole 0 A.size A _ (Nat.le_refl _) (Nat.zero_le _) i1
  have s1 := sorted_pw z B (by rw [hp.1]; exact hs)
  have s2 := sorted_pw z _ (by rw [i1.1]; exact i2)
  have hdB := difP_perm 0 A.size A B (Nat.le_refl _) (Nat.zero_le _) hp hd
  refine List.Perm.eq_of_pairwise (fun a b ha hb h1 h2 => ?_) s1 s2 (p1.trans p2.symm)
  have hb2 : b ∈ B.toList := (p1.trans p2.symm).mem_iff.2 hb
  obtain ⟨i, hi, rfl⟩ := List.mem_iff_getElem.1 ha
  obtain ⟨j, hj, rfl⟩ := List.mem_iff_getElem.1 hb2
  have hi' : i < B.size := by simpa using hi
  have hj' : j < B.size := by simpa using hj
  rw [← arr_get B i hi', ← arr_get B j hj'] at h1 h2 ⊢
  rcases Nat.lt_or_ge i j with h | h
  · rcases lt_tot z _ _ (hdB.1 i hi') (hdB.1 j hj') (hdB.2 i j hi' hj' (by omega)) with h3 | h3
    · rw [h2] at h3; cases h3
    · rw [h1] at h3; cases h3
  · rcases Nat.lt_or_ge j i with h4 | h4
    · rcases lt_tot z _ _ (hdB.1 i hi') (hdB.1 j hj') (hdB.2 i j hi' hj' (by omega)) with h3 | h3
      · rw [h2] at h3; cases h3
      · rw [h1] at h3; cases h3
    · rw [show i = j by omega]
theorem blF_lim : ∀ n : Nat, n ≤ 16 → 0 ≤ blF n ∧ blF n ≤ 1000 ∧ (n : Int) ≤ blF n + 12 := by decide +kernel
theorem d1_srt (z : BAm) (hz : (z.1.length : Int) ≤ 100) (d : Rows) (hl : d.length ≤ 16) (hd : difP d.toArray) : iter st_d1 (fu_d1 (g_pl z d)) (g_pl z d) = some (ex_d1 z (srtV z d)) := by
  obtain ⟨m1, m2, m3⟩ := blF_lim d.length hl
  have hf : fu_d1 (g_pl z d) = d.length + 1 := by
    show ((d.length : Int) - 0).toNat + 1 = _
    omega
  have hg : g_pl z d = hd_pd z d.toArray.toList ((0 : Nat) : Int) ((d.length : Nat) : Int) (blF d.length) true true := by
    unfold g_pl
    rw [wrapU (n := (d.length : Int)) (by omega) (by omega), show Int.toNat (d.length : Int) = d.length by omega]
    rfl
  obtain ⟨B, p1, p2, p3⟩ := d1_run z hz d.length 0 d.length (d.length + 1) d.toArray (blF d.length) true true (by omega) (by omega) (by simp) (by simpa using hl) (.inl rfl) hd m1 m2 (by simpa using m3) (Nat.le_refl _)
  rw [hf, hg, p3]
  have := srt_uniq z d.toArray B hd (by simpa using p1) (by simpa using p2)
  rw [this]
theorem srtV_len (z : BAm) (d : Rows) : (srtV z d).length = d.length := by
  have h := (Go.Sort.insertionSort_holds (swo z) d.toArray 0 d.length (Nat.zero_le _) (by simp)).1.1
  unfold srtV
  simpa using h
theorem T1_pl_run (z : BAm) (hz : (z.1.length : Int) ≤ 100) (t : Rows) (h1 : 1 ≤ t.length) (h2 : t.length ≤ 16) (hd : difP t.toArray) : T1_pl z t = .leaf ((srtV z t).map (fun r => (r.1 : Int)), 0, ()) := by
  unfold T1_pl
  rw [show t.isEmpty = false by cases t with | nil => simp at h1 | cons _ _ => rfl, app_ok (by simp; omega) (by omega), List.nil_append]
  simp only [Bool.not_false, cond_true]
  unfold T2_pl
  rw [wrapU (n := (t.length : Int)) (by omega) (by omega), decide_eq_true (show 0 ≤ (t.length : Int) ∧ (t.length : Int) ≤ 64 by omega), cond_true, d1_srt z hz t h2 hd]
  show T3_pl (srtV z t) = _
  unfold T3_pl
  rw [pl_run _ (by rw [srtV_len]; omega)]
  rfl
theorem blk_in (n : Int) (l : List (TCT cSc)) (h : blkV n l = 0) : 2 ≤ n ∧ n ≤ 16 ∧ chkV l = 0 := by
  unfold blkV at h
  by_cases h1 : n < 2
  · rw [decide_eq_true h1] at h; cases h
  · rw [decide_eq_false h1, cond_false] at h
    by_cases h2 : n > 16
    · rw [decide_eq_true h2] at h; cases h
    · rw [decide_eq_false h2, cond_false] at h
      exact ⟨by omega, by omega, h⟩
theorem q_ePlaces : PureOk Try.prog 39 s_Places := q_by XPl_ok 12 (fun x => T_pl x.1 x.2.1) T_pl_eq fun x _ _ => by
  show (T_pl x.1 x.2.1).sat (fun y => y = (plcV x.1 x.2.1, blkV x.1 x.2.1, ()))
  unfold T_pl
  rw [hdr_run]
  unfold plcV
  cases h : blkV x.1 x.2.1 != 0 with
  | true => exact rfl
  | false =>
    have h2 : blkV x.1 x.2.1 = 0 := by simpa [bne] using h
    obtain ⟨b1, b2, _⟩ := blk_in _ _ h2
    have hl := tbV_len x.1 (cntM x.2.1)
    rw [h2, T1_pl_run (tbV x.1 (cntM x.2.1), x.1, cntM x.2.1) (by rw [hl]; omega) (tbV x.1 (cntM x.2.1)) (by rw [hl]; omega) (by rw [hl]; omega) (tbV_dif _ _ b2)]
    exact rfl
end Ev
end V
end Go.Proofs.Ytgchccljmjmibaa
