/- Chapter 11: EventTables: places as they should be. -/
import Derived.Test.YtgchccljmjmibaaHa
namespace Go.Proofs.Ytgchccljmjmibaa
open Go.RowKit
namespace V
namespace Ev
open Go.Sort (insertionSort PermIn SortedIn)
theorem gR_get (l : Rows) (i : Nat) (h : i < l.length) : gR l i = l[i] := by
  show getA l (Int.toNat (i : Int)) (dflt cRow) = _
  rw [show Int.toNat (i : Int) = i by omega, getA_lt h]
theorem gI_get (l : List Int) (i : Nat) (h : i < l.length) : gI l i = l[i] := by
  show getA l (Int.toNat (i : Int)) (dflt cI) = _
  rw [show Int.toNat (i : Int) = i by omega, getA_lt h]
theorem srtV_perm (z : BAm) (t : Rows) : (srtV z t).Perm t := by
  obtain ⟨i1, _⟩ := Go.Sort.insertionSort_holds (swo z) t.toArray 0 t.length (Nat.zero_le _) (by simp)
  have := perm_whole 0 t.length t.toArray _ (by simp) (Nat.zero_le _) i1
  simpa [srtV] using this
theorem srtV_sorted (z : BAm) (t : Rows) : (srtV z t).Pairwise fun a b => ltV z b a = false := by
  obtain ⟨i1, i2⟩ := Go.Sort.insertionSort_holds (swo z) t.toArray 0 t.length (Nat.zero_le _) (by simp)
  have hs : (insertionSort (ltV z) t.toArray 0 t.length).size = t.length := by simpa using i1.1
  exact sorted_pw z _ (by rw [hs]; exact i2)
/-- places as they should be -/
structure PlcOk (N : Nat) (z : BAm) (t S : Rows) (p : List Int) : Prop where
  len : p.length = N
  mem : ∀ i : Nat, i < N → gR S i ∈ t
  pl : ∀ i : Nat, i < N → gI p i = rP (gR S i)
  row : ∀ i : Nat, i < N → gR t (gI p i) = gR S i
  rng : ∀ i : Nat, i < N → 0 ≤ gI p i ∧ gI p i < N
  dif : ∀ i j : Nat, i < N → j < N → i ≠ j → gI p i ≠ gI p j
  srt : ∀ i j : Nat, i < j → j < N → ltV z (gR S j) (gR S i) = false
theorem plc_ok (N : Nat) (z : BAm) (t : Rows) (ht : t.length = N) (hp : plL t = (List.range N).map fun (i : Nat) => (i : Int)) : PlcOk N z t (srtV z t) (plL (srtV z t)) := by
  have hperm := srtV_perm z t
  have hl : (srtV z t).length = N := by rw [hperm.length_eq]; exact ht
  have hl2 : (plL (srtV z t)).length = N := by rw [plL_len]; exact hl
  have hpl : ∀ i : Nat, i < N → gI (plL (srtV z t)) i = rP (gR (srtV z t) i) := fun i hi => by
    rw [gI_get _ i (by omega), gR_get _ i (by omega)]
    exact List.getElem_map _
  have hmem : ∀ i : Nat, i < N → gR (srtV z t) i ∈ t := fun i hi => by
    rw [gR_get _ i (by omega)]
    exact hperm.mem_iff.1 (List.getElem_mem _)
  have hk : ∀ r ∈ t, ∃ k : Nat, k < N ∧ rP r = k ∧ gR t k = r := fun r hr => by
    obtain ⟨k, hk, rfl⟩ := List.mem_iff_getElem.1 hr
    refine ⟨k, by omega, ?_, gR_get t k hk⟩
    have e : (plL t)[k]'(by rw [plL_len]; exact hk) = rP t[k] := List.getElem_map _
    rw [← e]
    simp only [hp]
    simp
  refine ⟨hl2, hmem, hpl, fun i hi => ?_, fun i hi => ?_, fun i j hi hj hij => ?_, fun i j hij hj => ?_⟩
  · obtain ⟨k, h1, h2, h3⟩ := hk _ (hmem i hi)
    rw [hpl i hi, h2, h3]
  · obtain ⟨k, h1, h2, h3⟩ := hk _ (hmem i hi)
    rw [hpl i hi, h2]
    omega
  · have hn : (plL (srtV z t)).Nodup := by
      have h1 : (plL (srtV z t)).Perm (plL t) := hperm.map _
      rw [h1.nodup_iff, hp]
      exact List.Pairwise.map (fun (i : Nat) => (i : Int)) (fun (a b : Nat) (h : a ≠ b) => show (a : Int) ≠ (b : Int) from fun e => h (by omega)) List.nodup_range
    have h3 := List.pairwise_iff_getElem.1 hn
    rw [gI_get _ i (by omega), gI_get _ j (by omega)]
    intro he
    rcases Nat.lt_or_gt_of_ne hij with h | h
    · exact h3 i j (by omega) (by omega) h he
    · exact h3 j i (by omega) (by omega) h he.symm
  · have := List.pairwise_iff_getElem.1 (srtV_sorted z t) i j (by omega) (by omega) hij
    rw [gR_get _ i (by omega), gR_get _ j (by omega)]
    exact this
theorem gameV_ok (n : Int) (a b : Int) (h2 : 2 ≤ n) (h16 : n ≤ 16) (ha : 0 ≤ a) (hb : 0 ≤ b) (ha2 : a < n) (hb2 : b < n) (hab : a ≠ b) : gameV n a b = (numW n a b, 0) := by
  unfold gameV
  rw [decide_eq_false (show ¬ n < 2 by omega), decide_eq_false (show ¬ n > 16 by omega), decide_eq_false (show ¬ min a b < 0 by omega), decide_eq_false (show ¬ max a b ≥ n by omega), show (a == b) = false by rw [beq_eq_false_iff_ne]; exact hab]
  rfl
theorem numW_sym (n a b : Int) : numW n a b = numW n b a := by
  unfold numW
  rw [Int.min_comm, Int.max_comm]
end Ev
end V
end Go.Proofs.Ytgchccljmjmibaa
