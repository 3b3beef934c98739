/- The law EventFair: plain facts of draws. -/
import Derived.Test.YtgchccljmjmibaaFm
namespace Go.Proofs.Ytgchccljmjmibaa
open Go.RowKit
namespace V
namespace Ev
theorem mem_rgI : ∀ (c a : Nat) (x : Int), x ∈ rgI a c → (a : Int) ≤ x ∧ x < (a + c : Nat)
  | 0, _, _, h => nomatch h
  | c + 1, a, x, h => by
    rcases List.mem_cons.1 h with rfl | h
    · omega
    · have := mem_rgI c (a + 1) x h
      omega
theorem rgI_nodup : ∀ (c a : Nat), (rgI a c).Nodup
  | 0, _ => List.nodup_nil
  | c + 1, a => by
    refine List.nodup_cons.2 ⟨fun h => ?_, rgI_nodup c (a + 1)⟩
    have := mem_rgI c (a + 1) _ h
    omega
theorem rgI_get : ∀ (c a i : Nat), i < c → getA (rgI a c) i 0 = ((a + i : Nat) : Int)
  | c + 1, a, 0, _ => rfl
  | c + 1, a, i + 1, h => by
    have := rgI_get c (a + 1) i (by omega)
    rw [show a + 1 + i = a + (i + 1) by omega] at this
    exact this
theorem shS_perm : ∀ (ls R L : List Int), (∀ x ∈ ls, 0 ≤ x) → L.length = ls.length → ∃ t, (ls.foldl shS (R, L)).1 = R ++ t ∧ t.Perm L
  | [], R, L, _, hL => by
    have : L = [] := List.eq_nil_of_length_eq_zero hL
    subst this
    exact ⟨[], (List.append_nil R).symm, .nil⟩
  | x :: ls, R, L, h, hL => by
    simp only [List.length_cons] at hL
    have hm := tmod_lt (m := L.length) (h x (List.mem_cons_self ..)) (by omega)
    have hj : (Int.tmod x L.length).toNat < L.length := by omega
    obtain ⟨t, h1, h2⟩ := shS_perm ls (R ++ [getA L (Int.tmod x L.length).toNat 0]) (L.take (Int.tmod x L.length).toNat ++ L.drop ((Int.tmod x L.length).toNat + 1)) (fun y hy => h y (List.mem_cons_of_mem _ hy)) (by simp; omega)
    rw [List.foldl_cons]
    refine ⟨getA L (Int.tmod x L.length).toNat 0 :: t, ?_, ?_⟩
    · rw [show shS (R, L) x = (R ++ [getA L (Int.tmod x L.length).toNat 0], L.take (Int.tmod x L.length).toNat ++ L.drop ((Int.tmod x L.length).toNat + 1)) from rfl, h1]
      simp
    · have e : L = L.take (Int.tmod x L.length).toNat ++ getA L (Int.tmod x L.length).toNat 0 :: L.drop ((Int.tmod x L.length).toNat + 1) := by
        rw [getA_lt hj, ← List.drop_eq_getElem_cons hj, List.take_append_drop]
      exact (List.Perm.cons _ h2).trans (List.perm_middle.symm.trans (List.Perm.of_eq e.symm))
/-- the ranks: each player once; those with a rank in order -/
structure RkOk (N K : Nat) (r : List Int) : Prop where
  len : r.length = N
  rng : ∀ x ∈ r, 0 ≤ x ∧ x < N
  nod : r.Nodup
  sds : ∀ i : Nat, i < K → getA r i 0 = i
theorem rk_ok {N K : Nat} (hK : K ≤ N) {l : List Int} (hl : l.length = N - K) (h0 : ∀ x ∈ l, 0 ≤ x) : RkOk N K (rkF N K l) := by
  obtain ⟨t, h1, h2⟩ := shS_perm l (rgI 0 K) (rgI K (N - K)) h0 (by rw [rgI_len, hl])
  have er : rkF N K l = rgI 0 K ++ t := by
    unfold rkF
    rw [show Int.toNat (K : Int) = K by omega, show Int.toNat ((N : Int) - K) = N - K by omega, h1]
  have hp : (rkF N K l).Perm (rgI 0 N) := by
    have := rgI_split K (N - K) 0
    rw [show K + (N - K) = N by omega, Nat.zero_add] at this
    rw [er, this]
    exact List.Perm.append_left _ h2
  refine ⟨by rw [hp.length_eq, rgI_len], fun x hx => ?_, hp.nodup_iff.2 (rgI_nodup N 0), fun i hi => ?_⟩
  · have := mem_rgI N 0 x (hp.mem_iff.1 hx)
    omega
  · rw [er, getA_lt (by rw [List.length_append, rgI_len]; omega), List.getElem_append_left (by rw [rgI_len]; exact hi)]
    have := rgI_get K 0 i hi
    rw [getA_lt (by rw [rgI_len]; exact hi)] at this
    omega
/-- how often the number of slots doubles -/
def lgI (n : Int) : Nat := bif decide (n ≤ 1) then 0 else bif decide (n ≤ 2) then 1 else bif decide (n ≤ 4) then 2 else bif decide (n ≤ 8) then 3 else bif decide (n ≤ 16) then 4 else bif decide (n ≤ 32) then 5 else 6
def nodB (l : List Int) : Bool := match l with
  | [] => true
  | x :: l => !l.contains x && nodB l
theorem nodB_ok : ∀ l : List Int, nodB l = true → l.Nodup
  | [], _ => List.nodup_nil
  | x :: l, h => by
    unfold nodB at h
    simp only [Bool.and_eq_true, Bool.not_eq_true'] at h
    refine List.nodup_cons.2 ⟨fun hm => ?_, nodB_ok l h.2⟩
    rw [List.contains_iff_mem.2 hm] at h
    cases h.1
/-- facts of the seed order, for one number of slots -/
def ordF (g : Nat) : Bool := nodB (ordT (2 ^ g)) && ((List.range (2 ^ g)).all (fun i => decide (getA (ordT (2 ^ g)) (par i) 0 = (2 ^ g : Nat) - 1 - getA (ordT (2 ^ g)) i 0) || decide (g = 0)) && ((List.range (2 ^ g)).all (fun a => (ordT (2 ^ g)).contains (a : Int)) &&
  (List.range (2 ^ g)).all (fun i => (List.range (2 ^ g)).all (fun k => (List.range (g + 1)).all (fun j => !(decide (getA (ordT (2 ^ g)) i 0 < (2 ^ j : Nat)) && (decide (getA (ordT (2 ^ g)) k 0 < (2 ^ j : Nat)) && decide (i ≠ k))) || decide (rnd i k ≥ (g : Int) - j))))))
theorem ordF_0 : ordF 0 = true := by decide +kernel
theorem ordF_1 : ordF 1 = true := by decide +kernel
theorem ordF_2 : ordF 2 = true := by decide +kernel
theorem ordF_3 : ordF 3 = true := by decide +kernel
theorem ordF_4 : ordF 4 = true := by decide +kernel
theorem ordF_5 : ordF 5 = true := by decide +kernel
theorem ordF_6 : ordF 6 = true := by decide +kernel
theorem ordF_all {g : Nat} (h : g ≤ 6) : ordF g = true := by
  obtain rfl | rfl | rfl | rfl | rfl | rfl | rfl : g = 0 ∨ g = 1 ∨ g = 2 ∨ g = 3 ∨ g = 4 ∨ g = 5 ∨ g = 6 := by omega
  · exact ordF_0
  · exact ordF_1
  · exact ordF_2
  · exact ordF_3
  · exact ordF_4
  · exact ordF_5
  · exact ordF_6
theorem lg_ok : ∀ N : Nat, N ≤ 64 → 2 ≤ N → szI N = (2 ^ lgI N : Nat) ∧ 1 ≤ lgI N ∧ lgI N ≤ 6 ∧ (((ordT (szI N).toNat).countP (fun x => decide ((N : Int) ≤ x)) : Nat) : Int) = szI N - N := by decide +kernel
end Ev
end V
end Go.Proofs.Ytgchccljmjmibaa
