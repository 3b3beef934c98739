import Derived.Test.YtcfanlgpkefogaaGreatNa
namespace Go.Proofs.YtcfanlgpkefogaaGreat
open Go.RowKit
namespace V
namespace St
def C30 (l : TCT Bao) : Prop := ∀ p : TCT cPt, (Bhx l p).1 = 0 ∧ (Bhx l p).2.1 = 0 ∧ (Bhx l p).2.2.1 = 0
theorem Cdk {x y : Int} (h : Bb3 x y = true) : Bk6 x y 0 = ((x, y, ()), 0, ()) := by
 unfold Bk6
 rw [h, show Bb6 0 0 33554432 = false from by decide]
 have b := Bdi h
 have hx : 0 ≤ x * x := by rcases Int.le_total 0 x with a | a; exact Int.mul_nonneg a a; exact Int.mul_nonneg_of_nonpos_of_nonpos a a
 have hy : 0 ≤ y * y := by rcases Int.le_total 0 y with a | a; exact Int.mul_nonneg a a; exact Int.mul_nonneg_of_nonpos_of_nonpos a a
 obtain ⟨r1, r2, r3⟩ := Bg5 (64 * (x * x + y * y)) (by omega)
 have e : slN x y = rt (64 * (x * x + y * y)) := rfl
 rw [← e] at r1 r2 r3
 cases hd : decide (slN x y ≤ 8 * 0) with
 | true =>
  have h0 := of_decide_eq_true hd
  have z : slN x y = 0 := by omega
  rw [z] at r3
  have x0 : x * x = 0 := by omega
  have y0 : y * y = 0 := by omega
  rcases Int.mul_eq_zero.1 x0 with a | a <;> rcases Int.mul_eq_zero.1 y0 with c | c <;> rw [a, c] <;> rfl
 | false =>
  have h0 := of_decide_eq_false hd
  have z : slN x y ≠ 0 := by omega
  show (((x * (slN x y - 8 * 0)).tdiv (slN x y), (y * (slN x y - 8 * 0)).tdiv (slN x y), ()), (0 : Int), ()) = _
  rw [Int.mul_zero, Int.sub_zero, Int.mul_tdiv_cancel _ z, Int.mul_tdiv_cancel _ z]
theorem Cdl {l : TCT Bao} {m : TCT Bau} (hl : C30 l) (hm : smB m = true) : (Bkb l m).2.1 = 0 ∧ (C6e l m).2.1 = m.2.1 := by
 obtain ⟨a, b, c⟩ := hl m.1
 have d := Bdi hm
 have e : Bkb l m = ((m.2.1.1, m.2.1.2.1, ()), 0, ()) := by
  unfold Bkb
  rw [a, b, c, Int.add_zero, Int.add_zero, Bba (Int.le_trans (by decide) d.1.1) (Int.le_trans d.1.2 (by decide)), Bba (Int.le_trans (by decide) d.2.1) (Int.le_trans d.2.2 (by decide))]
  exact Cdk hm
 refine ⟨by rw [e], ?_⟩
 unfold C6e
 rw [e]
theorem Clq {h : TCT cPt → Int} {l : TCT Bao} {os : List Bool} {w fl : Int} {i : Nat} {ms ms' : Bam} (hl : C30 l) (hs : SM ms) (e : slE l os w fl i ms = .inl ms') : smP h ms' = smP h ms ∧ SM ms' := by
 unfold slE at e
 cases h1 : !Bbs ms os i || Bdp w fl i with
 | true => rw [h1] at e; cases e; exact ⟨rfl, hs⟩
 | false =>
  rw [h1] at e
  cases h2 : Bed l (Bah ms i).1 != 0 with
  | true => rw [h2] at e; cases e
  | false =>
   rw [h2] at e
   cases h3 : (Bkb l (Bah ms i)).2.1 != 0 with
   | true => rw [h3] at e; cases e
   | false =>
    rw [h3] at e
    cases e
    have f := Cdl hl (hs i)
    refine ⟨Bo5 f.2, SM.set hs ?_⟩
    unfold smB
    rw [f.2]; exact hs i
theorem RQ.sm {bl : List (TCT No)} {n : Nat} {ms : Bam} {os : List Bool} (q : RQ bl n ms os) : SM ms := fun j => by
 by_cases hj : j < n
 ·have := q.ok j hj
  unfold Bjd Bn1 at this
  simp only [Bool.and_eq_true] at this
  exact this.2.2.1
 ·have hm := q.m
  unfold Bah
  rw [Bdg, List.getD_eq_getElem?_getD, List.getElem?_eq_none (by omega)]
  rfl
theorem C76 {g : TCT cGr} {s : TCT cSt} (h : StaOk g s) : SM (msT s) ∧ (msT s).length ≤ 8 := by
 have hm := h.m
 have h8 := h.n8
 exact ⟨(Btd h).1.sm, by omega⟩
theorem Csy {k : CT} {s r : S2} (h : tkF k s = .inl r) : ∃ ms : Bam, Baw (slE k.l s.2.1 k.w k.fl) 0 k.bl.length s.1 = .inl ms := by
 unfold tkF at h
 cases e0 : k.t == 4000 with
 | true => rw [e0] at h; cases h
 | false =>
  rw [e0, cond_false] at h
  cases e1 : Baw (slE k.l s.2.1 k.w k.fl) 0 k.bl.length s.1 with
  | inr e => rw [e1] at h; cases h
  | inl ms => exact ⟨ms, rfl⟩
theorem Cdm {h : TCT cPt → Int} (p : PartH h) {g : TCT cGr} {s : TCT cSt} {r : S2} (hl : C30 g.1) (k : StaOk g s) (hf : tkF (ctS g s) (msT s, osT s, []) = .inl r) : MSk h (smP h (msT s)) r.1 r.2.2 ∧ r.2.2.length ≤ 129152 := by
 have hp := Btb (l := g.1)
 obtain ⟨ms, e1⟩ := Csy hf
 have a := Csn p (k := ctS g s) (s := (msT s, osT s, [])) k.n8 (by show (Bgj g.1).length ≤ 1000; omega) k.m k.o e1 hf
 have b : smP h ms = smP h (msT s) ∧ SM ms := Bb1 (n := (V1 g).length) (Inv := fun _ (x : Bam) => smP h x = smP h (msT s) ∧ SM x) (fun i x x' _ hx h3 => by
  have c := Clq (h := h) hl hx.2 h3
  exact ⟨c.1.trans hx.1, c.2⟩) (V1 g).length 0 _ _ (by omega) ⟨rfl, (C76 k).1⟩ e1
 rw [b.1] at a
 simpa using a
def KR (n : Nat) (ks : Kns) : Prop := ∀ i, i < ks.length → (Biu ks i).2.2.1 = 0 → (0 ≤ (Biu ks i).2.2.2.1 ∧ (Biu ks i).2.2.2.1 < (n : Int)) ∧ (0 ≤ (Biu ks i).2.2.2.2.1 ∧ (Biu ks i).2.2.2.2.1 < (n : Int))
theorem Csz {n : Nat} {o : List Bool} {T : Int} : KV n o T T 0 [] o :=
 ⟨rfl, fun _ h => absurd h (Nat.not_lt_zero _), fun _ h => absurd h (Nat.not_lt_zero _), fun _ h => absurd h (Nat.not_lt_zero _)⟩
theorem Ct0 {g : TCT cGr} {s : TCT cSt} {r : S2} (k : StaOk g s) (hf : tkF (ctS g s) (msT s, osT s, []) = .inl r) : KR (V1 g).length r.2.2 := by
 have kv : KV (V1 g).length (osT s) s.2.2.2.2.1 (s.2.2.2.2.1 + 1) 0 r.2.2 r.2.1 := Czu (k := ctS g s) (s := (msT s, osT s, [])) k.n8 (Int.le_refl _) hf Csz
 intro i hi h0
 have a := kv.g i hi
 obtain ⟨b, c, _⟩ := a.ot h0
 exact ⟨a.b, Int.le_trans a.b.1 (Int.le_of_lt b), c⟩
theorem D4l {bl : List (TCT No)} {c : TCT Bbw} {T st w fl : Int} {n : Nat} {s : S2} {r : Bam × Kns} (hn8 : n ≤ 8) (h : seF bl c T st w fl n s = .inl r) (hk : KR n s.2.2) : KR n r.2 := by
 unfold seF at h
 cases he : (seS bl c w fl n s).2.2.1 != 0 with
 | true => rw [he] at h; cases h
 | false =>
  rw [he] at h
  cases h
  have e0 := bne_eq_false_iff_eq.1 he
  have hG : InvH s.1 s.2.1 n n (seG bl w fl n s) := Bx6
  have hS := Bpq hn8 e0
  refine Bb1 (n := (seS bl c w fl n s).2.1.length) (Inv := fun _ (x : Kns) => KR n x) (fun j x x' hj hx h3 => ?_) (seS bl c w fl n s).2.1.length 0 s.2.2 _ (by omega) hk (Bgk (Baw (kpE (seG bl w fl n s).1 (seS bl c w fl n s).2.1 T st) 0 (seS bl c w fl n s).2.1.length s.2.2))
  cases h3
  have pr : Bpp (seG bl w fl n s).1.length (Bit (seS bl c w fl n s).2.1 j) := hS.2.2 _ (Bdl hj _)
  have l1 : Int.toNat (Bit (seS bl c w fl n s).2.1 j).1 < (seG bl w fl n s).1.length := Bmc pr.1 (Int.lt_trans pr.2.1 pr.2.2)
  have l2 : Int.toNat (Bit (seS bl c w fl n s).2.1 j).2.1 < (seG bl w fl n s).1.length := Bmc (Int.le_of_lt (Int.lt_of_le_of_lt pr.1 pr.2.1)) pr.2.2
  intro i hi h0
  rw [List.length_append, List.length_singleton] at hi
  by_cases e : i = x.length
  ·subst e
   rw [Bo4]
   exact ⟨hG.g.r _ (Bdl l1 _), hG.g.r _ (Bdl l2 _)⟩
  ·rw [Bo3 (by omega)] at h0 ⊢
   exact hx i (by omega) h0
theorem D02 {g : TCT cGr} {s : TCT cSt} {w : TCT cBw} (h : (skV g s w).2.2.1 = 0) : KR (V1 g).length (skV g s w).2.1 ∧ (skV g s w).1.2.2.2.2.1 = 0 ∧ ((skV g s w).2.1 : Kns).length ≤ 10000 ∧ ∀ i : Nat, i ≠ Int.toNat w.1 → tcB i (skV g s w).2.1 = false → Bah (msT (skV g s w).1) i = Bah (msT s) i := by
 obtain ⟨k, e⟩ := Clh h
 obtain ⟨k1, k2, k3⟩ := k.set
 have n8 := k.sk.n8
 have hm1 := k1.q.m
 have hi : Int.toNat w.1 < (V1 g).length := Bmc k.b.b.1 k.b.b.2
 have hset : ∀ i : Nat, i ≠ Int.toNat w.1 → Bah (Bhp (msT s) w.1 (twP w)) i = Bah (msT s) i := fun i hne => by
  unfold Bhp
  have hm := k.sk.m
  exact Bdv (by omega) hne
 have nil : KR (V1 g).length [] := fun i hi => absurd hi (Nat.not_lt_zero i)
 rw [e] at h ⊢
 unfold skG at h ⊢
 cases h4 : w.2.2.2.1 == 4 with
 | true =>
  simp only [cond_true]
  exact ⟨nil, rfl, Nat.zero_le _, fun i hne _ => hset i hne⟩
 | false =>
  rw [h4] at h
  simp only [cond_false] at h ⊢
  cases hf : seF (V1 g) g.2.2.1 0 0 w.1 0 (V1 g).length (Bhp (msT s) w.1 (twP w), osT s, []) with
  | inr x => rw [hf] at h; exact absurd h (Bz6 hf)
  | inl r =>
   rw [hf] at h
   have rel : ∀ i, REL i (Bhp (msT s) w.1 (twP w), osT s, []) (r.1, osT s, r.2) := fun i => Cap n8 hf
   have kr := D4l n8 hf nil
   have rest : ∀ i : Nat, i ≠ Int.toNat w.1 → Bec (Bah (Bhp (msT s) w.1 (twP w)) i) = true := fun i hne => by
    rw [hset i hne]; exact Brv k.r i
   have stay : ∀ i : Nat, i ≠ Int.toNat w.1 → tcB i r.2 = false → Bah r.1 i = Bah (msT s) i := fun i hne hk => ((rel i).r2 (rest i hne) hk).1.trans (hset i hne)
   have len : r.2.length ≤ 10000 := by
    unfold seF at hf
    cases he : (seS (V1 g) g.2.2.1 w.1 0 (V1 g).length (Bhp (msT s) w.1 (twP w), osT s, [])).2.2.1 != 0 with
    | true => rw [he] at hf; cases hf
    | false =>
     rw [he] at hf
     cases hf
     have hS := Bpq n8 (bne_eq_false_iff_eq.1 he)
     have hl := hS.2.1
     have hk := Ca8 (W := (seG (V1 g) w.1 0 (V1 g).length (Bhp (msT s) w.1 (twP w), osT s, [])).1) (P := (seS (V1 g) g.2.2.1 w.1 0 (V1 g).length (Bhp (msT s) w.1 (twP w), osT s, [])).2.1) (t := 0) (st := 0) (ks := [])
     show (kpV _ _ 0 0 []).length ≤ 10000
     rw [hk]
     simp only [List.length_nil]
     omega
   obtain ⟨ms, ks⟩ := r
   unfold skF at h ⊢
   simp only at h ⊢
   cases hk : decide ((ks.length : Int) > 0) with
   | false => exact ⟨kr, rfl, len, stay⟩
   | true =>
    rw [hk] at h
    cases hg : C2q (skM ms w) w.1 with
    | true => rw [hg] at h; cases h
    | false =>
     refine ⟨kr, rfl, len, fun i hne hk => ?_⟩
     have ml : (ms : Bam).length = (V1 g).length := (Caf hf).trans hm1
     show Bah (skM ms w) i = _
     unfold skM mY mX
     rw [C2x, Bg4 (show Int.toNat w.1 < (ms : Bam).length by omega) rfl, Bdv (by omega) hne]
     exact stay i hne hk
end St
end V
end Go.Proofs.YtcfanlgpkefogaaGreat
