import Derived.Test.YtcfanlgpkefogaaGreatNb
namespace Go.Proofs.YtcfanlgpkefogaaGreat
open Go.RowKit
namespace V
namespace St
structure InvP (l : TCT Bao) (p : List (TCT cPt)) (i : Nat) (ms : Bam) : Prop where
 ln : ms.length = i
 g : ∀ j : Nat, j < i → Bah ms j = Ccz (Bat p j (Bar cPt)) ∧ onB l (Cj2 (Bat p j (Bar cPt))) = true
theorem Ct1 {l : TCT Bao} {p : List (TCT cPt)} {ms : Bam} (h : Baw (f_li l p) 0 p.length [] = .inl ms) : InvP l p p.length ms :=
 Bb1 (n := p.length) (Inv := fun i (x : Bam) => InvP l p i x) (fun i x x' hi hx h2 => by
  unfold f_li at h2
  cases ho : Cqk l p i with
  | false => rw [ho] at h2; cases h2
  | true =>
   rw [ho] at h2
   cases h2
   have hl := hx.ln
   refine ⟨by rw [List.length_append, List.length_singleton, hl], fun j hj => ?_⟩
   unfold Bah
   rw [Bek (by omega)]
   by_cases e : j = x.length
   ·rw [if_pos e, e, hl]; exact ⟨rfl, ho⟩
   ·rw [if_neg e]; exact hx.g j (by omega)) p.length 0 [] ms (by omega) ⟨rfl, fun _ h => absurd h (Nat.not_lt_zero _)⟩ h
theorem Cdn {g : TCT cGr} (h : groE g = 0) : Bc1 g.1 = 0 ∧ (1 ≤ (V1 g).length ∧ (V1 g).length ≤ 8) ∧ (V1 g).all Bfn = true := by
 unfold groE at h
 cases h1 : Bc1 g.1 != 0 with
 | true => rw [h1, cond_true] at h; exact absurd h (bne_iff_ne.1 h1)
 | false =>
  rw [h1, cond_false] at h
  cases h2 : decide (((V1 g).length : Int) < 1) || decide (((V1 g).length : Int) > 8) with
  | true => rw [h2] at h; cases h
  | false =>
   rw [h2, cond_false] at h
   rw [Bool.or_eq_false_iff] at h2
   have a := of_decide_eq_false h2.1
   have b := of_decide_eq_false h2.2
   cases h3 : okG g with
   | false => rw [h3] at h; cases h
   | true =>
    unfold okG at h3
    rw [Bool.and_eq_true] at h3
    exact ⟨bne_eq_false_iff_eq.1 h1, ⟨by omega, by omega⟩, h3.1⟩
theorem D4m {l : TCT Bao} {p : TCT cPt} (hl : Bc1 l = 0) (h : onB l p = true) : fpt p.1 p.2.1 = true := by
 have lo := C62 hl
 unfold onB inR at h
 simp only [Bool.and_eq_true, decide_eq_true_eq] at h
 exact Ckn h.1.1 h.2.1 h.1.2 h.2.2 lo.w.2 lo.lg.2
theorem Ct2 {b : TCT No} {p : TCT cPt} (hb : Bfn b = true) (hp : fpt p.1 p.2.1 = true) : Bjd b (Ccz p) = true := by
 have hm : 400 ≤ b.1 := by
  unfold Bfn Bgr at hb
  rw [Bool.and_eq_true, Bool.not_eq_true', Bool.not_eq_true'] at hb
  exact (Bdc hb.1).1
 unfold Bjd Bn1
 show (Bgr b.1 b.2.1 && (fpt p.1 p.2.1 && (Bb3 0 0 && (!Bb6 0 (-(32 * b.1)) (32 * b.1 - 1) && !Bb6 0 (-(32 * b.1)) (32 * b.1 - 1))))) = true
 have ho : Bb6 0 (-(32 * b.1)) (32 * b.1 - 1) = false := C70 (z_in hm)
 rw [show Bgr b.1 b.2.1 = true from hb, hp, ho]
 rfl
where z_in {m : Int} (h : 400 ≤ m) : -(32 * m) ≤ 0 ∧ (0 : Int) ≤ 32 * m - 1 := by omega
theorem D03 {g : TCT cGr} {p : List (TCT cPt)} (h : (Bf6 g p).2.1 = 0) : StaOk g (Bf6 g p).1 ∧ Bew (Bf6 g p).1 = true ∧ (∀ j : Nat, Bc5 (osT (Bf6 g p).1) j = false) ∧ p.length = (V1 g).length := by
 unfold Bf6 at h ⊢
 cases h1 : groE g != 0 with
 | true => rw [h1] at h; exact absurd h (bne_iff_ne.1 h1)
 | false =>
  have hg := bne_eq_false_iff_eq.1 h1
  obtain ⟨hl, ⟨n1, n8⟩, hb⟩ := Cdn hg
  rw [h1] at h
  simp only [cond_false] at h ⊢
  cases h2 : C21 p.length (V1 g).length with
  | true => rw [h2] at h; cases h
  | false =>
   rw [h2] at h
   simp only [cond_false] at h ⊢
   have hn : p.length = (V1 g).length := by
    unfold C21 at h2
    have := bne_eq_false_iff_eq.1 h2
    omega
   cases h3 : Baw (f_li g.1 p) 0 p.length [] with
   | inr e => rw [h3] at h; cases h
   | inl ms =>
    have iv := Ct1 h3
    have il := iv.ln
    have og : ∀ j : Nat, Bc5 (List.replicate p.length false) j = false := fun j => by
     unfold Bc5
     rw [Bdg, List.getD_eq_getElem?_getD, List.getElem?_replicate]
     by_cases e : j < p.length
     ·rw [if_pos e]; rfl
     ·rw [if_neg e]; rfl
    have q : RQ (V1 g) (V1 g).length ms (List.replicate p.length false) := ⟨il.trans hn, by rw [List.length_replicate, hn], fun j hj => by
     obtain ⟨a, b⟩ := iv.g j (by omega)
     rw [a]
     refine Ct2 ?_ (D4m (p := Cj2 (Bat p j (Bar cPt))) hl b)
     exact List.all_eq_true.1 hb _ (Bdl hj _), fun j _ h => by rw [og j] at h; cases h⟩
    have ol : OL g.1 (V1 g).length ms (List.replicate p.length false) := fun j hj _ => by
     obtain ⟨a, b⟩ := iv.g j (by omega)
     rw [a]
     exact b
    refine ⟨Bte hg n1 n8 q ol ?_, ?_, og, hn⟩
    ·show (decide ((0 : Int) < 0) || (decide ((0 : Int) ≥ ((V1 g).length : Int)) || (decide ((0 : Int) < 0) || (decide ((0 : Int) > 8) || (decide ((0 : Int) < 0) || decide ((0 : Int) > 4000)))))) = false
     rw [decide_eq_false (show ¬ (0 : Int) ≥ ((V1 g).length : Int) by omega)]
     rfl
    ·show (ms : Bam).all Bec = true
     rw [List.all_eq_true]
     intro m hm
     obtain ⟨j, hj, e⟩ := List.getElem_of_mem hm
     have := (iv.g j (by omega)).1
     unfold Bah at this
     rw [Bdg, List.getD_eq_getElem?_getD, List.getElem?_eq_getElem hj] at this
     rw [← e]
     rw [show ms[j] = Ccz (Bat p j (Bar cPt)) from this]
     rfl
end St
end V
end Go.Proofs.YtcfanlgpkefogaaGreat
