/- Chapter 11: tables: all games. -/
import Derived.Test.YtgchccljmjmibaaGw
namespace Go.Proofs.Ytgchccljmjmibaa
open Go.RowKit
namespace V
namespace Ev
/-- the pairs of a block -/
def prs (N : Nat) : List (Nat × Nat) := (List.range N).flatMap fun a => (List.range a).map fun b => (a, b)
theorem inv_rowF {n : Int} {m : cMp} (hm : okM m) {N : Nat} (a : Nat) (ha : a < N) : ∀ (bs : List Nat) {P : List (Nat × Nat)} {l : Rows}, InvT n m N P l → (∀ b ∈ bs, b < a) → P.length + bs.length ≤ 1000 → InvT n m N (P ++ bs.map fun b => (a, b)) (bs.foldl (fun l (b : Nat) => tbS n m a l b) l)
  | [], P, l, h, _, _ => by simpa using h
  | b :: bs, P, l, h, hb, hl => by
    have hba := hb b (by simp)
    have h1 := inv_tbS hm h a b ha (by omega) (by omega) (by simp at hl; omega)
    have := inv_rowF hm a ha bs h1 (fun b hb' => hb b (by simp [hb'])) (by simp at hl ⊢; omega)
    simpa using this
theorem inv_rowS {n : Int} {m : cMp} (hm : okM m) {N : Nat} {P : List (Nat × Nat)} {l : Rows} (h : InvT n m N P l) (a : Nat) (ha : a < N) (hP : P.length + a ≤ 1000) : InvT n m N (P ++ (List.range a).map fun b => (a, b)) (rowS n m l a) :=
  inv_rowF hm a ha (List.range a) (inv_plA h a ha) (fun b hb => List.mem_range.1 hb) (by simpa using hP)
theorem prs_len : ∀ k : Nat, k ≤ 16 → (prs k).length ≤ 200 := by decide +kernel
theorem inv_all {n : Int} {m : cMp} (hm : okM m) {N : Nat} (hN : N ≤ 16) {l : Rows} (h : InvT n m N [] l) : ∀ k : Nat, k ≤ N → InvT n m N (prs k) ((List.range k).foldl (rowS n m) l)
  | 0, _ => h
  | k + 1, hk => by
    have ih := inv_all hm hN h k (by omega)
    have hl := prs_len k (by omega)
    have := inv_rowS hm ih k (by omega) (by omega)
    rw [List.range_succ, List.foldl_append]
    have e : prs (k + 1) = prs k ++ (List.range k).map fun b => (k, b) := by
      unfold prs
      rw [List.range_succ, List.flatMap_append]
      simp
    rw [e]
    exact this
theorem inv_tbV {n : Int} {m : cMp} (hm : okM m) (hN : n.toNat ≤ 16) : InvT n m n.toNat (prs n.toNat) (tbV n m) := by
  refine inv_all hm hN ?_ _ (Nat.le_refl _)
  have hg : ∀ i : Nat, i < n.toNat → gR (List.replicate n.toNat zR) i = zR := fun i hi => by
    show getA _ (Int.toNat (i : Int)) (dflt cRow) = _
    rw [show Int.toNat (i : Int) = i by omega, getA_lt (by simpa using hi)]
    simp
  have hs : ∀ (f : Row → Int) (k : Nat), f zR = 0 → smR f (List.replicate k zR) = 0 := fun f k hf => by
    unfold smR
    induction k with
    | zero => rfl
    | succ k ih => rw [List.replicate_succ, List.map_cons, List.sum_cons, hf, ih]; rfl
  exact ⟨by simp, fun i hi => by rw [hg i hi]; rfl, fun i hi => by rw [hg i hi]; exact ⟨by decide, by decide⟩, fun i hi => by rw [hg i hi]; exact ⟨by decide, by decide⟩, by rw [hs _ _ rfl]; rfl, hs _ _ rfl⟩
theorem prs_cnt : ∀ N : Nat, N ≤ 16 → ∀ i, i < N → (prs N).countP (fun q => q.1 == i || q.2 == i) = N - 1 := by decide +kernel
theorem prs_num : ∀ N : Nat, N ≤ 16 → (((prs N).map fun q => numW N q.1 q.2).isPerm ((List.range (N * (N - 1) / 2)).map fun (k : Nat) => (k : Int))) = true := by decide +kernel
theorem games_le {n : Int} {m : cMp} (hN : n.toNat ≤ 16) (i : Nat) (hi : i < n.toNat) : gmP n m (prs n.toNat) i ≤ n.toNat - 1 := by
  rw [← prs_cnt n.toNat hN i hi]
  exact List.countP_mono_left fun q _ h => by
    simp only [Bool.and_eq_true] at h
    exact h.2
theorem games_cnt {n : Int} {m : cMp} (h0 : 0 ≤ n) (hN : n.toNat ≤ 16) : (prs n.toNat).countP (prB n m) = (List.range (n.toNat * (n.toNat - 1) / 2)).countP fun (k : Nat) => (m (k : Int)).isSome := by
  have hp := List.isPerm_iff.1 (prs_num n.toNat hN)
  have h := hp.countP_eq (fun k => (m k).isSome)
  rw [List.countP_map, List.countP_map] at h
  have e : ((n.toNat : Nat) : Int) = n := by omega
  have e1 : prB n m = (fun k => (m k).isSome) ∘ fun (q : Nat × Nat) => numW ((n.toNat : Nat) : Int) q.1 q.2 := by
    funext q
    show (m (numW n q.1 q.2)).isSome = (m (numW ((n.toNat : Nat) : Int) q.1 q.2)).isSome
    rw [e]
  rw [e1, h]
  rfl
end Ev
end V
end Go.Proofs.Ytgchccljmjmibaa
