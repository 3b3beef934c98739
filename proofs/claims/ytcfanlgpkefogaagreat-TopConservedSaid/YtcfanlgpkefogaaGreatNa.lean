import Derived.Test.YtcfanlgpkefogaaGreatFo
namespace Go.Proofs.YtcfanlgpkefogaaGreat
open Go.RowKit
namespace V
namespace St
theorem Bmw {S B : Type} {f : Nat → S → S ⊕ B} {Inv : Nat → S → Prop} {n : Nat} (h2 : ∀ i s s', i < n → Inv i s → f i s = .inl s' → Inv (i + 1) s') : ∀ (k i : Nat) (s : S) (e : B), i + k = n → Inv i s → Baw f i k s = .inr e → ∃ j t, j < n ∧ Inv j t ∧ f j t = .inr e
 | 0, _, _, _, _, _, h => by cases h
 | k + 1, i, s, e, hk, hi, h => by
  unfold Baw at h
  cases hf : f i s with
  | inl t => rw [hf] at h; exact Bmw h2 k (i + 1) t e (by omega) (h2 i s t (by omega) hi hf) h
  | inr b =>
   rw [hf] at h
   cases h
   exact ⟨i, s, by omega, hi, hf⟩
theorem Css {bl : List (TCT No)} {os : List Bool} {i n : Nat} {ms : Bam} {e : Int} (hi : i < n) (q : RQ bl n ms os) (h : stE bl os i ms = .inr e) : e = 4 := by
 unfold stE at h
 cases h1 : !Bbs ms os i with
 | true => rw [h1] at h; cases h
 | false =>
  rw [h1] at h
  cases h3 : (Bmt (Bd1 bl i) (Bah ms i)).2.1 != 0 with
  | false => rw [h3] at h; cases h
  | true =>
   rw [h3] at h
   cases h
   have hk : (bm (Bd1 bl i) (Bah ms i)).ok = true := q.ok i hi
   show (Biw (bm (Bd1 bl i) (Bah ms i))).2.1 = 4
   have h4 : ((Biw (bm (Bd1 bl i) (Bah ms i))).2.1 != 0) = true := h3
   unfold Biw at h4 ⊢
   rw [hk] at h4 ⊢
   cases h5 : fpt (sX (bm (Bd1 bl i) (Bah ms i))) (sY (bm (Bd1 bl i) (Bah ms i))) with
   | false => rfl
   | true => rw [h5] at h4; cases h4
theorem Cst {l : TCT Bao} {j : Nat} {T st e : Int} {s : S2} (h : lvE l T st j s = .inr e) : False := by
 unfold lvE at h
 cases e1 : Bat s.2.1 j (Bar .b) with
 | true => rw [e1] at h; cases h
 | false =>
  rw [e1] at h
  cases e2 : onB l (Bah s.1 j).1 with
  | true => rw [e2] at h; cases h
  | false => rw [e2] at h; cases h
theorem Csu {bl : List (TCT No)} {l : TCT Bao} {n : Nat} {T st e : Int} {s : S2} (q : RQ bl n s.1 s.2.1) (h : mvF bl l T st n s = .inr e) : e = 4 := by
 unfold mvF at h
 cases e1 : Baw (stE bl s.2.1) 0 n s.1 with
 | inr x =>
  rw [e1] at h
  cases h
  obtain ⟨j, t, hj, ht, hf⟩ := Bmw (n := n) (Inv := fun _ (x : Bam) => RQ bl n x s.2.1) (fun i s s' hi hq h => Cl0 hi h hq) n 0 s.1 e (by omega) q e1
  exact Css hj ht hf
 | inl ms =>
  rw [e1] at h
  have h2 : Baw (lvE l T st) 0 n (ms, s.2.1, s.2.2) = .inr e := h
  obtain ⟨j, t, hf⟩ := Bdh _ _ _ _ h2
  exact (Cst hf).elim
theorem Cb0 {bl : List (TCT No)} {c : TCT Bbw} {t st w fl e : Int} {n : Nat} {s : S2} (hn8 : n ≤ 8) (q : RQ bl n s.1 s.2.1) (hc : Bfi c.1 c.2.1 = true) (h : seF bl c t st w fl n s = .inr e) : e = 4 := by
 have hG : InvH s.1 s.2.1 n n (seG bl w fl n s) := Bx6
 have hV : InvV n (seG bl w fl n s) := D4h q
 have hb := hV.b
 have hm := hV.m
 have hk := hG.g.k
 have ck : Bjf (seG bl w fl n s).2.1 (seG bl w fl n s).2.2 = 0 := by
  unfold Bjf
  rw [decide_eq_false (show ¬ ((seG bl w fl n s).2.1.length : Int) > 8 by omega), show (((seG bl w fl n s).2.1.length : Int) != ((seG bl w fl n s).2.2.length : Int)) = false from bne_eq_false_iff_eq.2 (by omega), Clk _ _ (by omega) (fun k hk => hV.v k (by omega))]
  rfl
 unfold seF at h
 cases he : (seS bl c w fl n s).2.2.1 != 0 with
 | false => rw [he] at h; cases h
 | true =>
  rw [he] at h
  cases h
  have h4 := bne_iff_ne.1 he
  unfold seS Bbr at h4 ⊢
  rw [ck, hc] at h4 ⊢
  cases h5 : V.okS (Bfq (seG bl w fl n s).2.1 c.1 c.2.1 (seG bl w fl n s).2.1.length 0 ((seG bl w fl n s).2.2, [])) with
  | false => rfl
  | true => rw [h5] at h4; exact absurd rfl h4
theorem Csv {b : TCT No} {c : TCT Bbw} {ps : Dss} {os : List Bool} {w fl t st e : Int} {j k : Nat} {s : MK} (h : bpE b c ps os w fl t st j k s = .inr (.inr e)) : e = 4 := by
 unfold bpE at h
 cases e1 : !Bbs s.1 os j || Bdp w fl j with
 | true => rw [e1] at h; cases h
 | false =>
  rw [e1] at h
  simp only [cond_false] at h
  cases e2 : (bmV b (Bah s.1 j) (Bdu ps k) c).2.1 == 0 with
  | true => rw [e2] at h; cases h
  | false =>
   rw [e2] at h
   simp only [cond_false] at h
   cases e3 : (bmV b (Bah s.1 j) (Bdu ps k) c).2.1 == 4 with
   | true => rw [e3] at h; cases h; exact beq_iff_eq.1 e3
   | false => rw [e3] at h; cases h
theorem Csw {bl : List (TCT No)} {c : TCT Bbw} {ps : Dss} {n : Nat} {w fl t st e : Int} {s : S2} (h : buF bl c ps t st w fl n s = .inr e) : e = 4 := by
 unfold buF at h
 obtain ⟨j, x, hf⟩ := Bdh _ _ _ _ h
 have h1 : Bz1 (Baw (bpE (Bd1 bl j) c ps s.2.1 w fl t st j) 0 ps.length x) = .inr e := hf
 cases h2 : Baw (bpE (Bd1 bl j) c ps s.2.1 w fl t st j) 0 ps.length x with
 | inl y => rw [h2] at h1; cases h1
 | inr y =>
  rw [h2] at h1
  cases y with
  | inl z => cases h1
  | inr z =>
   cases h1
   obtain ⟨i, v, hv⟩ := Bdh _ _ _ _ h2
   exact Csv hv
theorem Csx {k : CT} {i : Nat} {s : S2} {e : Int} (hn8 : k.bl.length ≤ 8) (hc : Bfi k.c.1 k.c.2.1 = true) (q : RQ k.bl k.bl.length s.1 s.2.1) (h : tkE k i s = .inr e) : e = 4 := by
 unfold tkE at h
 cases h1 : mvF k.bl k.l k.t ((i + 1 : Nat) : Int) k.bl.length s with
 | inr x => rw [h1] at h; cases h; exact Csu q h1
 | inl s1 =>
  rw [h1] at h
  simp only at h
  have a := Cl1 h1 q
  cases h2 : seF k.bl k.c k.t ((i + 1 : Nat) : Int) k.w k.fl k.bl.length s1 with
  | inr x => rw [h2] at h; cases h; exact Cb0 hn8 a.1 hc h2
  | inl s2 =>
   rw [h2] at h
   simp only at h
   cases h3 : buF k.bl k.c k.ps k.t ((i + 1 : Nat) : Int) k.w k.fl k.bl.length (s2.1, s1.2.1, s2.2) with
   | inr x => rw [h3] at h; cases h; exact Csw h3
   | inl s3 => rw [h3] at h; cases h
theorem Clp {g : TCT cGr} {s : TCT cSt} {e : Int} (h : StaOk g s) (ht : s.2.2.2.2.1 ≠ 4000) (hf : tkF (ctS g s) (msT s, osT s, []) = .inr e) : e = 4 := by
 have q := Btd h
 unfold tkF at hf
 cases h0 : (ctS g s).t == 4000 with
 | true => exact absurd (beq_iff_eq.1 h0) ht
 | false =>
  rw [h0] at hf
  simp only [cond_false] at hf
  cases h1 : Baw (slE (ctS g s).l (osT s) (ctS g s).w (ctS g s).fl) 0 (ctS g s).bl.length (msT s) with
  | inr x =>
   rw [h1] at hf
   cases hf
   have e2 : Baw (slE g.1 (osT s) s.2.2.1 s.2.2.2.1) 0 (V1 g).length (msT s) = .inr e := h1
   rw [D48 (Cz7 h)] at e2
   obtain ⟨j, t, hj⟩ := Bdh _ _ _ _ e2
   exact Crv hj
  | inl ms =>
   rw [h1] at hf
   have q1 : RQ (V1 g) (V1 g).length ms (osT s) := (Bb1 (n := (V1 g).length) (Inv := fun _ (x : Bam) => RQ (V1 g) (V1 g).length x (osT s) ∧ OL g.1 (V1 g).length x (osT s)) (fun i x x' hi hq h => Cky hi h hq.1 hq.2) (V1 g).length 0 _ _ (by omega) q h1).1
   have h2 : Baw (tkE (ctS g s)) 0 16 (ms, osT s, []) = .inr e := hf
   obtain ⟨j, t, _, ht, hj⟩ := Bmw (n := 16) (Inv := fun _ (x : S2) => RQ (V1 g) (V1 g).length x.1 x.2.1) (fun i x x' _ hx h3 => (Cl7 h3 hx).1) 16 0 (ms, osT s, []) e (by omega) q1 h2
   exact Csx h.n8 (Cav h.gr) ht hj
theorem D01 {g : TCT cGr} {s : TCT cSt} {w : TCT cBw} (k : SkOk g s w) (hb : bwB ((V1 g).length : Int) w = false) (h : (skV g s w).2.2.1 ≠ 0) : (skV g s w).2.2.1 = 4 := by
 rw [Czx k hb] at h ⊢
 obtain ⟨k1, _, _⟩ := k.set
 unfold skG at h ⊢
 cases h4 : w.2.2.2.1 == 4 with
 | true => rw [h4] at h; exact absurd rfl h
 | false =>
  rw [h4] at h
  simp only [cond_false] at h ⊢
  cases hf : seF (V1 g) g.2.2.1 0 0 w.1 0 (V1 g).length (Bhp (msT s) w.1 (twP w), osT s, []) with
  | inr x => exact Cb0 k.sk.n8 k1.q (Cav k.sk.gr) hf
  | inl r =>
   rw [hf] at h
   obtain ⟨ms, ks⟩ := r
   unfold skF at h ⊢
   simp only at h ⊢
   cases hk : decide ((ks.length : Int) > 0) with
   | false => rw [hk] at h; exact absurd rfl h
   | true =>
    rw [hk] at h
    cases hg : C2q (skM ms w) w.1 with
    | true => rfl
    | false => rw [hg] at h; exact absurd rfl h
end St
end V
end Go.Proofs.YtcfanlgpkefogaaGreat
