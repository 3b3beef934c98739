import Derived.Test.YtkiaifmbbnnliaaGreatEq
namespace Go.Proofs.YtkiaifmbbnnliaaGreat
open Go.RowKit
namespace V
namespace St
theorem rnS_zero {g : TCT cGr} (s : TCT cSt) (ks : Kns) : rnS g 0 s ks = bif decide ((ks.length : Int) > 4096) then .inr 6 else .inl (s, ks) := rfl
theorem rnS_succ {g : TCT cGr} (n : Nat) (s : TCT cSt) (ks : Kns) : rnS g (n + 1) s ks = bif decide ((ks.length : Int) > 4096) then .inr 6 else bif !stillB s then match tkF (ctS g s) (msT s, osT s, ks) with
    | .inl r => rnS g n (nxS s r) r.2.2
    | .inr e => .inr e
    else .inl (s, ks) := rfl
theorem rnS_sta {g : TCT cGr} : ∀ (n : Nat) (s : TCT cSt) (ks : Kns) (r : TCT cSt × Kns), StaOk g s → rnS g n s ks = .inl r → StaOk g r.1 ∧ r.2.length ≤ 4096
  | 0, s, ks, r, h, e => by
    rw [rnS_zero] at e
    cases hm : decide ((ks.length : Int) > 4096) with
    | true => rw [hm] at e; cases e
    | false =>
      rw [hm] at e
      have := of_decide_eq_false hm
      cases e
      exact ⟨h, by show ks.length ≤ 4096; omega⟩
  | n + 1, s, ks, r, h, e => by
    rw [rnS_succ] at e
    cases hm : decide ((ks.length : Int) > 4096) with
    | true => rw [hm] at e; cases e
    | false =>
      rw [hm] at e
      have := of_decide_eq_false hm
      cases hs : stillB s with
      | true =>
        rw [hs] at e
        cases e
        exact ⟨h, by show ks.length ≤ 4096; omega⟩
      | false =>
        rw [hs] at e
        simp only [Bool.not_false, cond_true, cond_false] at e
        cases ht : tkF (ctS g s) (msT s, osT s, ks) with
        | inr x => rw [ht] at e; cases e
        | inl x => rw [ht] at e; exact rnS_sta n (nxS s x) x.2.2 r (tick_sta h ht) e
theorem rnS_ne {g : TCT cGr} : ∀ (n : Nat) (s : TCT cSt) (ks : Kns) (e : Int), rnS g n s ks = .inr e → e ≠ 0
  | 0, s, ks, e, h => by
    rw [rnS_zero] at h
    cases hm : decide ((ks.length : Int) > 4096) with
    | true => rw [hm] at h; cases h; decide
    | false => rw [hm] at h; cases h
  | n + 1, s, ks, e, h => by
    rw [rnS_succ] at h
    cases hm : decide ((ks.length : Int) > 4096) with
    | true => rw [hm] at h; cases h; decide
    | false =>
      rw [hm] at h
      cases hs : stillB s with
      | true => rw [hs] at h; cases h
      | false =>
        rw [hs] at h
        simp only [Bool.not_false, cond_true, cond_false] at h
        cases ht : tkF (ctS g s) (msT s, osT s, ks) with
        | inr x => rw [ht] at h; cases h; exact tkF_ne ht
        | inl x => rw [ht] at h; exact rnS_ne n (nxS s x) x.2.2 e h
theorem sta_of {g : TCT cGr} {s : TCT cSt} (h : StaOk g s) : staE g s = 0 := by
  unfold staE vaE
  have e : eqlS g s = true := by
    unfold eqlS
    rw [h.m, h.o, beq_self_eq_true]; rfl
  rw [h.gr, e, h.ok, h.num]; rfl
theorem sta_ne {g : TCT cGr} {s : TCT cSt} (h : StaOk g s) : (staE g s != 0) = false := by rw [sta_of h]; rfl
theorem play_of {g : TCT cGr} {s : TCT cSt} {n : Nat} (h : StaOk g s) (hn : n ≤ 4000) : PlayV g s (n : Int) = runS (rnS g n s []) := by
  rw [PlayV_eq, sta_ne h, decide_eq_false (show ¬ (n : Int) < 0 by omega), decide_eq_false (show ¬ (n : Int) > 4000 by omega)]
  rfl
theorem play_bad {g : TCT cGr} {s : TCT cSt} {n : Int} (h : (staE g s != 0) = true) : PlayV g s n = errT (staE g s) := by
  rw [PlayV_eq, h]; rfl
end St
end V
end Go.Proofs.YtkiaifmbbnnliaaGreat
