import Derived.Test.YtkiaifmbbnnliaaGreatEq
namespace Go.Proofs.YtkiaifmbbnnliaaGreat
open Go.RowKit
namespace V
namespace St
theorem rnS_zero {g : TCT cGr} (s : TCT cSt) (ks : Kns) : rnS g 0 s ks = bif decide ((ks.length : Int) > 4096) then .inr 6 else .inl (s, ks) := rfl
theorem rnS_succ {g : TCT cGr} (n : Nat) (s : TCT cSt) (ks : Kns) : rnS g (n + 1) s ks = bif decide ((ks.length : Int) > 4096) then .inr 6 else bif !stillB s then match tkF (ctS g s) (msT s, osT s, ks) with
    | .inl r => rnS g n (nxS s r) r.2.2
    | .inr e => .inr e
    else .inl (s, ks) := rfl
theorem rnS_many {g : TCT cGr} {n : Nat} {s : TCT cSt} {ks : Kns} (h : decide ((ks.length : Int) > 4096) = true) : rnS g n s ks = .inr 6 := by
  cases n with
  | zero => rw [rnS_zero, h]; rfl
  | succ n => rw [rnS_succ, h]; rfl
theorem rnS_still {g : TCT cGr} {n : Nat} {s : TCT cSt} {ks : Kns} (h : decide ((ks.length : Int) > 4096) = false) (hs : stillB s = true) : rnS g n s ks = .inl (s, ks) := by
  cases n with
  | zero => rw [rnS_zero, h]; rfl
  | succ n => rw [rnS_succ, h, hs]; rfl
theorem rnS_add {g : TCT cGr} {m : Nat} : ∀ (n : Nat) (s : TCT cSt) (ks : Kns), rnS g (n + m) s ks = match rnS g n s ks with
    | .inl r => rnS g m r.1 r.2
    | .inr e => .inr e
  | 0, s, ks => by
    rw [Nat.zero_add, rnS_zero]
    cases h : decide ((ks.length : Int) > 4096) with
    | true => exact rnS_many h
    | false => rfl
  | n + 1, s, ks => by
    rw [show n + 1 + m = n + m + 1 by omega, rnS_succ, rnS_succ]
    cases h : decide ((ks.length : Int) > 4096) with
    | true => rfl
    | false =>
      cases hs : stillB s with
      | true => exact (rnS_still h hs).symm
      | false =>
        simp only [Bool.not_false, cond_true, cond_false]
        cases tkF (ctS g s) (msT s, osT s, ks) with
        | inr e => rfl
        | inl r => exact rnS_add n (nxS s r) r.2.2
theorem many_app {k0 ks : Kns} (h : decide (((k0 ++ ks).length : Int) > 4096) = false) : decide ((ks.length : Int) > 4096) = false := by
  have a := of_decide_eq_false h
  rw [List.length_append] at a
  exact decide_eq_false (by omega)
theorem tkF_ks2 {k : CT} {ms : Mots} {os : List Bool} {k0 ks : Kns} : tkF k (ms, os, k0 ++ ks) = mapS (a2 k0) id (tkF k (ms, os, ks)) := tkF_app (k := k) (ks := k0) (ms, os, ks)
def ShR (k0 : Kns) (y : (TCT cSt × Kns) ⊕ Int) : (TCT cSt × Kns) ⊕ Int → Prop
  | .inl r => ∃ k2, y = .inl (r.1, k2) ∧ r.2 = k0 ++ k2
  | .inr e => e ≠ 6 → y = .inr e
theorem rnS_shift {g : TCT cGr} {k0 : Kns} : ∀ (m : Nat) (s : TCT cSt) (ks : Kns), ShR k0 (rnS g m s ks) (rnS g m s (k0 ++ ks))
  | 0, s, ks => by
    rw [rnS_zero, rnS_zero]
    cases h : decide (((k0 ++ ks).length : Int) > 4096) with
    | true => exact fun h => absurd rfl h
    | false => rw [many_app h]; exact ⟨ks, rfl, rfl⟩
  | m + 1, s, ks => by
    rw [rnS_succ, rnS_succ]
    cases h : decide (((k0 ++ ks).length : Int) > 4096) with
    | true => exact fun h => absurd rfl h
    | false =>
      rw [many_app h]
      cases stillB s with
      | true => exact ⟨ks, rfl, rfl⟩
      | false =>
        simp only [Bool.not_false, cond_true, cond_false]
        rw [tkF_ks2]
        cases tkF (ctS g s) (msT s, osT s, ks) with
        | inr e => exact fun _ => rfl
        | inl r => exact rnS_shift m (nxS s r) r.2.2
theorem rnS_sta {g : TCT cGr} : ∀ (n : Nat) (s : TCT cSt) (ks : Kns) (r : TCT cSt × Kns), StaOk g s → rnS g n s ks = .inl r → StaOk g r.1 ∧ r.2.length ≤ 4096
  | 0, s, ks, r, h, e => by
    rw [rnS_zero] at e
    cases hm : decide ((ks.length : Int) > 4096) with
    | true => rw [hm] at e; cases e
    | false =>
      rw [hm] at e
      have := of_decide_eq_false hm
      cases e
      exact ⟨h, by show ks.length ≤ 4096; omega⟩
  | n + 1, s, ks, r, h, e => by
    rw [rnS_succ] at e
    cases hm : decide ((ks.length : Int) > 4096) with
    | true => rw [hm] at e; cases e
    | false =>
      rw [hm] at e
      have := of_decide_eq_false hm
      cases hs : stillB s with
      | true =>
        rw [hs] at e
        cases e
        exact ⟨h, by show ks.length ≤ 4096; omega⟩
      | false =>
        rw [hs] at e
        simp only [Bool.not_false, cond_true, cond_false] at e
        cases ht : tkF (ctS g s) (msT s, osT s, ks) with
        | inr x => rw [ht] at e; cases e
        | inl x => rw [ht] at e; exact rnS_sta n (nxS s x) x.2.2 r (tick_sta h ht) e
theorem rnS_ne {g : TCT cGr} : ∀ (n : Nat) (s : TCT cSt) (ks : Kns) (e : Int), rnS g n s ks = .inr e → e ≠ 0
  | 0, s, ks, e, h => by
    rw [rnS_zero] at h
    cases hm : decide ((ks.length : Int) > 4096) with
    | true => rw [hm] at h; cases h; decide
    | false => rw [hm] at h; cases h
  | n + 1, s, ks, e, h => by
    rw [rnS_succ] at h
    cases hm : decide ((ks.length : Int) > 4096) with
    | true => rw [hm] at h; cases h; decide
    | false =>
      rw [hm] at h
      cases hs : stillB s with
      | true => rw [hs] at h; cases h
      | false =>
        rw [hs] at h
        simp only [Bool.not_false, cond_true, cond_false] at h
        cases ht : tkF (ctS g s) (msT s, osT s, ks) with
        | inr x => rw [ht] at h; cases h; exact tkF_ne ht
        | inl x => rw [ht] at h; exact rnS_ne n (nxS s x) x.2.2 e h
theorem trS_zero {g : TCT cGr} {b : Int} (s : TCT cSt) (ks : Kns) (t : TrkP) : trS g b 0 s ks t = bif decide ((ks.length : Int) > 4096) then .inr 6 else .inl (s, ks, t ++ [trS.atS s b]) := rfl
theorem trS_succ {g : TCT cGr} {b : Int} (n : Nat) (s : TCT cSt) (ks : Kns) (t : TrkP) : trS g b (n + 1) s ks t = bif decide ((ks.length : Int) > 4096) then .inr 6 else bif !stillB s then match tkF (ctS g s) (msT s, osT s, ks) with
    | .inl r => trS g b n (nxS s r) r.2.2 (t ++ [trS.atS s b])
    | .inr e => .inr e
    else .inl (s, ks, t ++ [trS.atS s b]) := rfl
theorem trS_rnS {g : TCT cGr} {b : Int} : ∀ (n : Nat) (s : TCT cSt) (ks : Kns) (t : TrkP), match trS g b n s ks t with
    | .inl r => rnS g n s ks = .inl (r.1, r.2.1) ∧ ∃ t0, r.2.2 = t0 ++ [trS.atS r.1 b]
    | .inr e => rnS g n s ks = .inr e
  | 0, s, ks, t => by
    rw [trS_zero, rnS_zero]
    cases decide ((ks.length : Int) > 4096) with
    | true => rfl
    | false => exact ⟨rfl, t, rfl⟩
  | n + 1, s, ks, t => by
    rw [trS_succ, rnS_succ]
    cases decide ((ks.length : Int) > 4096) with
    | true => rfl
    | false =>
      cases stillB s with
      | true => exact ⟨rfl, t, rfl⟩
      | false =>
        simp only [Bool.not_false, cond_true, cond_false]
        cases tkF (ctS g s) (msT s, osT s, ks) with
        | inr e => rfl
        | inl r => exact trS_rnS n (nxS s r) r.2.2 (t ++ [trS.atS s b])
theorem sta_of {g : TCT cGr} {s : TCT cSt} (h : StaOk g s) : staE g s = 0 := by
  unfold staE vaE
  have e : eqlS g s = true := by
    unfold eqlS
    rw [h.m, h.o, beq_self_eq_true]; rfl
  rw [h.gr, e, h.ok, h.num]; rfl
theorem sta_ne {g : TCT cGr} {s : TCT cSt} (h : StaOk g s) : (staE g s != 0) = false := by rw [sta_of h]; rfl
theorem play_of {g : TCT cGr} {s : TCT cSt} {n : Nat} (h : StaOk g s) (hn : n ≤ 4000) : PlayV g s (n : Int) = runS (rnS g n s []) := by
  rw [PlayV_eq, sta_ne h, decide_eq_false (show ¬ (n : Int) < 0 by omega), decide_eq_false (show ¬ (n : Int) > 4000 by omega)]
  rfl
theorem play_bad {g : TCT cGr} {s : TCT cSt} {n : Int} (h : (staE g s != 0) = true) : PlayV g s n = errT (staE g s) := by
  rw [PlayV_eq, h]; rfl
end St
end V
end Go.Proofs.YtkiaifmbbnnliaaGreat
