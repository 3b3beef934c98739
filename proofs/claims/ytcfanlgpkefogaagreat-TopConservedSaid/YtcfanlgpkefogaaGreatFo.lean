import Derived.Test.YtcfanlgpkefogaaGreatFm
namespace Go.Proofs.YtcfanlgpkefogaaGreat
open Go.RowKit
namespace V
namespace St
structure InvV (i : Nat) (s : GA) : Prop where
 b : s.2.1.length = s.1.length
 m : s.2.2.length = s.1.length
 v : ∀ k : Nat, k < s.1.length → Bjd (Bd1 s.2.1 k) (Bah s.2.2 k) = true
theorem D4h {bl : List (TCT No)} {ms : Bam} {os : List Bool} {w fl : Int} {n : Nat} (q : RQ bl n ms os) : InvV n (gaV bl w fl n ms os) :=
 Bb1 (n := n) (Inv := InvV) (fun i s s' hi h h2 => by
  unfold gaE at h2
  have hb := h.b
  have hm := h.m
  cases hc : !Bat os i (Bar .b) && !Bdp w fl i with
  | false => rw [hc] at h2; cases h2; exact ⟨hb, hm, h.v⟩
  | true =>
   rw [hc] at h2
   cases h2
   refine ⟨?_, ?_, fun k hk => ?_⟩
   ·show (s.2.1 ++ [Bd1 bl i]).length = (s.1 ++ [(i : Int)]).length
    rw [List.length_append, List.length_append, hb]; rfl
   ·show (s.2.2 ++ [Bah ms i]).length = (s.1 ++ [(i : Int)]).length
    rw [List.length_append, List.length_append, hm]; rfl
   ·have hk2 : k < (s.1 ++ [(i : Int)]).length := hk
    have hk' : k < s.1.length + 1 := by rw [List.length_append, List.length_singleton] at hk2; exact hk2
    show Bjd (Bat (s.2.1 ++ [Bd1 bl i]) k (Bar No)) (Bat (s.2.2 ++ [Bah ms i]) k (Bar Bau)) = true
    rw [Bek (by omega), Bek (by omega)]
    by_cases e : k = s.1.length
    ·rw [if_pos (by omega), if_pos (by omega)]; exact q.ok i hi
    ·rw [if_neg (by omega), if_neg (by omega)]; exact h.v k (by omega)) n 0 ([], [], []) _ (by omega) ⟨rfl, rfl, fun k hk => absurd hk (Nat.not_lt_zero k)⟩ (Bgk (Baw (gaE bl ms os w fl) 0 n ([], [], [])))
theorem Clk : ∀ (l : List (TCT No)) (s : Bam), l.length = s.length → (∀ k, k < l.length → Bjd (Bd1 l k) (Bah s k) = true) → (l.zip s).all Bmx = true
 | [], [], _, _ => rfl
 | [], _ :: _, h, _ => by simp at h
 | _ :: _, [], h, _ => by simp at h
 | b :: l, m :: s, h, k => by
  rw [List.zip_cons_cons, List.all_cons, Bool.and_eq_true]
  exact ⟨k 0 (by simp), Clk l s (by simpa using h) fun j hj => k (j + 1) (by simpa using hj)⟩
theorem Cav {g : TCT cGr} (h : groE g = 0) : Bfi g.2.2.1.1 g.2.2.1.2.1 = true := by
 unfold groE at h
 cases h1 : Bc1 g.1 != 0 with
 | true => rw [h1, cond_true] at h; exact absurd h (bne_iff_ne.1 h1)
 | false =>
  rw [h1, cond_false] at h
  cases h2 : decide (((V1 g).length : Int) < 1) || decide (((V1 g).length : Int) > 8) with
  | true => rw [h2] at h; cases h
  | false =>
   rw [h2, cond_false] at h
   cases h3 : okG g with
   | false => rw [h3] at h; cases h
   | true =>
    unfold okG at h3
    rw [Bool.and_eq_true] at h3
    exact h3.2
end St
end V
end Go.Proofs.YtcfanlgpkefogaaGreat
namespace Go.Proofs.YtcfanlgpkefogaaGreat
open Go.RowKit
namespace V
namespace St
theorem Cll {p a : Int} {i : Nat} (hi : i < 8) (hp : -(i * 16777216) ≤ p ∧ p ≤ i * 16777216) (ha : -16777216 ≤ a ∧ a ≤ 16777216) : W64 (p + a) = p + a ∧ -((i + 1 : Nat) * 16777216) ≤ p + a ∧ p + a ≤ (i + 1 : Nat) * 16777216 := by
 refine ⟨Bba (by omega) (by omega), by omega, by omega⟩
structure InvT (m : Bam) (i : Nat) (p : SKTs kPt) : Prop where
 x : p.1 = smP ptX (m.take i)
 y : p.2.1 = smP ptY (m.take i)
 bx : -(i * 16777216) ≤ smP ptX (m.take i) ∧ smP ptX (m.take i) ≤ i * 16777216
 by' : -(i * 16777216) ≤ smP ptY (m.take i) ∧ smP ptY (m.take i) ≤ i * 16777216
theorem Caw {m : Bam} (h8 : m.length ≤ 8) (hs : SM m) : (Bsu m).1 = smP ptX m ∧ (Bsu m).2.1 = smP ptY m := by
 have key : ∃ p : SKTs kPt, Baw (C6c m) 0 m.length p0 = .inl p ∧ InvT m m.length p := by
  have e : ∀ x : SKTs kPt ⊕ Unit, (∀ u, x ≠ .inr u) → ∃ p, x = .inl p := fun x h => by
   cases x with
   | inl p => exact ⟨p, rfl⟩
   | inr u => exact absurd rfl (h u)
  obtain ⟨p, hp⟩ := e (Baw (C6c m) 0 m.length p0) (fun u hu => by
   obtain ⟨j, v, hj⟩ := Bdh _ _ _ _ hu
   unfold C6c at hj
   cases hj)
  refine ⟨p, hp, Bb1 (n := m.length) (Inv := fun i (x : SKTs kPt) => InvT m i x) (fun i x x' hi h h2 => ?_) m.length 0 p0 p (by omega) ⟨rfl, rfl, by simp [smP], by simp [smP]⟩ hp⟩
  unfold C6c at h2
  cases h2
  have b := Bdi (hs i)
  have ex : smP ptX (m.take (i + 1)) = smP ptX (m.take i) + ptX (Bah m i).2.1 := Bko m i hi
  have ey : smP ptY (m.take (i + 1)) = smP ptY (m.take i) + ptY (Bah m i).2.1 := Bko m i hi
  have wx := Cll (i := i) (by omega) h.bx b.1
  have wy := Cll (i := i) (by omega) h.by' b.2
  refine ⟨?_, ?_, ?_, ?_⟩
  ·show W64 (x.1 + (Bah m i).2.1.1) = _
   rw [h.x, ex]; exact wx.1
  ·show W64 (x.2.1 + (Bah m i).2.1.2.1) = _
   rw [h.y, ey]; exact wy.1
  ·rw [ex]; exact wx.2
  ·rw [ey]; exact wy.2
 obtain ⟨p, hp, h⟩ := key
 unfold Bsu
 rw [hp]
 have hx := h.x
 have hy := h.y
 rw [List.take_length] at hx hy
 exact ⟨hx, hy⟩
end St
end V
end Go.Proofs.YtcfanlgpkefogaaGreat
