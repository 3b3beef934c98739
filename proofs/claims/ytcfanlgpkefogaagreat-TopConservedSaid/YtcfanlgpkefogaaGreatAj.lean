import Derived.Test.YtcfanlgpkefogaaGreatAi
import Derived.Test.YtcfanlgpkefogaaGreatFo
namespace Go.Proofs.YtcfanlgpkefogaaGreat
open Go.RowKit
namespace V
namespace Tp
open St
theorem C0r {g : TCT cGr} {s : TCT cSt} (h : StaOk g s) : totR g s = Bsu (msT s) := by
 unfold totR
 rw [Btf h]
 rfl
theorem Cp0 {a b : Bam} (ha : SM a ∧ a.length ≤ 8) (hb : SM b ∧ b.length ≤ 8) (h : ∀ f : TCT cPt → Int, PartH f → smP f a = smP f b) : C8w (Bsu a) (Bsu b) = true := by
 obtain ⟨a1, a2⟩ := Caw ha.2 ha.1
 obtain ⟨b1, b2⟩ := Caw hb.2 hb.1
 unfold C8w
 rw [a1, a2, b1, b2, h _ .x, h _ .y, beq_self_eq_true, beq_self_eq_true]
 rfl
theorem Cgk {g : TCT cGr} {s : TCT cSt} (h : StaOk g s) (ht : s.2.2.2.2.1 ≠ 4000) : TickV g s = Bje 4 ∨ ∃ r : S2, tkF (ctS g s) (msT s, osT s, []) = .inl r ∧ TickV g s = (nxS s r, r.2.2, 0, ()) := by
 unfold TickV
 rw [Btf h, cond_false]
 unfold tkV
 cases hf : tkF (ctS g s) (msT s, osT s, []) with
 | inr e => exact .inl (by rw [Clp h ht hf]; rfl)
 | inl r => exact .inr ⟨r, rfl, rfl⟩
theorem D1q : C30 (grn 0 0) := fun p => by
 have key : ∀ n : Nat, Bat (Bca (grn 0 0)) n (Bar Bc3) = (0, 0, 0, ()) := fun n => by
  cases n with
  | zero => rfl
  | succ n => rfl
 unfold Bhx
 cases Bed (grn 0 0) p == 0 with
 | false => exact ⟨rfl, rfl, rfl⟩
 | true => rw [cond_true, key]; exact ⟨rfl, rfl, rfl⟩
theorem C8z {E : Type} (rt : E) (ex : List Bool → E) : ∀ (l : Kns) (i : Nat) (h : List Bool), Bni (fun _ x h => bif nbK x then some (.inr rt) else some (.inl (Bri h x))) (fun h => some (ex h)) i l h = some (bif l.any nbK then rt else ex (Bkp h l))
 | [], _, _ => rfl
 | x :: l, i, h => by
  simp only [Bni, List.any_cons]
  cases hx : nbK x with
  | true => rfl
  | false => simp only [cond_false, Bool.false_or]; exact C8z rt ex l (i + 1) (Bri h x)
theorem Cx3 {q : QTc} {i : Int} {n : Nat} (hl : q.l.length = n) (hh : q.hit.length = n) (kr : KR n q.ks) (hk : q.ks.length ≤ 129152) : iter Bpe (q.ks.length + 1) (Bya q i 0) = some (bif q.ks.any nbK then Bkj true else Byb { q with hit := Bkp q.hit q.ks } i) := by
 have key := Bds (st := Bpe) q.ks (fun k h => Bya { q with hit := h } i (k : Int)) (fun _ x h => bif nbK x then some (.inr (Bkj true)) else some (.inl (Bri h x))) (fun h => some (Byb { q with hit := h } i)) (fun _ h => h.length = n)
  (fun k h hi hI => by
   have e1 : knT { q with hit := h } (k : Int) = q.ks[k] := by unfold knT; exact Bcl hi _
   have eK : Biu q.ks k = q.ks[k] := Bcl hi _
   have hb : ∀ {β : Type} (t : Tree β), inN q.ks.length (k : Int) t = t := fun t => Bdb (by omega)
   cases hx : nbK q.ks[k] with
   | true =>
    show (Bmn { q with hit := h } i (k : Int)).run = _
    unfold Bmn
    rw [e1, decide_eq_true (show (k : Int) < (q.ks.length : Int) by omega), cond_true, hb]
    rw [show (q.ks[k].2.2.1 != 0) = true from hx]
    rfl
   | false =>
    have z : q.ks[k].2.2.1 = 0 := bne_eq_false_iff_eq.1 hx
    have a := kr k hi (by rw [eK]; exact z)
    rw [eK] at a
    obtain ⟨⟨a1, a2⟩, a3, a4⟩ := a
    have b2 : q.ks[k].2.2.2.1 < (q.l.length : Int) := by rw [hl]; exact a2
    have b4 : q.ks[k].2.2.2.2.1 < (q.l.length : Int) := by rw [hl]; exact a4
    refine ⟨?_, Bti.trans hI⟩
    show (Bmn { q with hit := h } i (k : Int)).run = _
    unfold Bmn
    simp only [e1, hb]
    rw [decide_eq_true (show (k : Int) < (q.ks.length : Int) by omega), show (q.ks[k].2.2.1 != 0) = false from hx, decide_eq_false (show ¬ q.ks[k].2.2.2.1 < 0 from Int.not_lt.2 a1), decide_eq_false (show ¬ q.ks[k].2.2.2.1 ≥ (q.l.length : Int) from Int.not_le.2 b2), decide_eq_false (show ¬ q.ks[k].2.2.2.2.1 < 0 from Int.not_lt.2 a3), decide_eq_false (show ¬ q.ks[k].2.2.2.2.1 ≥ (q.l.length : Int) from Int.not_le.2 b4), Bba (n := (k : Int) + 1) (by omega) (by omega)]
    simp only [cond_true, cond_false]
    rw [Bdt ⟨a1, by rw [hI]; exact a2⟩, Bdt ⟨a3, by rw [Bbf, hI]; exact a4⟩]
    rfl)
  (fun h e _ he => by
   cases he
   show (Bmn { q with hit := h } i (q.ks.length : Int)).run = _
   unfold Bmn
   rw [decide_eq_false (show ¬ (q.ks.length : Int) < (q.ks.length : Int) by omega)]
   rfl)
  q.ks.length 0 q.hit (bif q.ks.any nbK then Bkj true else Byb { q with hit := Bkp q.hit q.ks } i) (q.ks.length + 1) (by omega) (by omega) hh (by rw [List.drop_zero, C8z])
 exact key
theorem Ccj (m : TCT Bau) : Cow m m = true := by unfold Cow; simp only [beq_self_eq_true, Bool.and_self]
theorem Cx4 {q : QTc} {i : Int} {n : Nat} (hn : n ≤ 8) (hl : q.l.length = n) (hh : q.hit.length = n) (ht : (q.t.1 : Bam).length = n) (hs : (q.s.1 : Bam).length = n) (he : ∀ k : Nat, Bc5 q.hit k = false → Bah q.t.1 k = Bah q.s.1 k) : iter Bmo (q.l.length + 1) (Bpd q i 0) = some (C5g q i) := by
 have key := Bf9 (st := Bmo) (S := Unit) (B := Empty) q.l.length (fun k _ => Bpd q i (k : Int)) (fun _ s => .inl s) (fun _ => C5g q i) (fun _ _ => True)
  (fun k s hi _ => by
   show (Bsb q i (k : Int)).run = _
   unfold Bsb
   rw [decide_eq_true (show (k : Int) < (q.l.length : Int) by omega), Bdt (by omega), Bdb (by omega), Bdb (by omega), Bba (n := (k : Int) + 1) (by omega) (by omega), show Int.toNat (k : Int) = k from rfl]
   cases hk : Bat q.hit k (Bar .b) with
   | true => rfl
   | false =>
    have e : moT q.t (k : Int) = moT q.s (k : Int) := he k hk
    rw [e, Ccj]
    rfl) (fun _ _ _ _ _ _ => trivial) (fun s _ => by
   show (Bsb q i (q.l.length : Int)).run = _
   unfold Bsb
   rw [decide_eq_false (show ¬ (q.l.length : Int) < (q.l.length : Int) by omega)]
   rfl) q.l.length 0 () (by omega) trivial
 exact key
structure OI (g : TCT cGr) (s0 t0 : TCT cSt) (n i : Nat) (q : QTc) : Prop where
 el : q.l.length = n
 eg : q.g = Bd7 g
 es : q.s = s0
 eu : q.sum = totR g t0
 ec : CI g s0 t0 i q.t q.ks q.hit
theorem Cx5 {t : Int} : Int.tmod (W64 t) 31 ≤ 30 := by
 have := Int.tmod_lt_of_pos (W64 t) (show (0 : Int) < 31 by decide)
 omega
theorem Cgl {g : TCT cGr} {s0 t0 : TCT cSt} {n i : Nat} {q : QTc} (hs : (g.1.1.size : Int) ≤ Bb2 .i64) (hl : C30 g.1) (h0 : StaOk g s0) (h1 : StaOk g t0) (hn : (V1 g).length = n) (hi : i ≤ 30) (o : OI g s0 t0 n i q) (hd : (i : Int) ≤ Int.tmod (W64 q.tk) 31) :
  (Bj8 TickV totR (Bki q (i : Int))).run = some (.inr (Bj7 true)) ∨ ∃ q', (Bj8 TickV totR (Bki q (i : Int))).run = some (.inl (Bki q' ((i + 1 : Nat) : Int))) ∧ q'.tk = q.tk ∧ OI g s0 t0 n (i + 1) q' := by
 obtain ⟨l, tk, qg, qs, t, ks, sum, hit⟩ := q
 obtain ⟨ol, og, os, osum, c⟩ := o
 simp only at ol og os osum c
 subst og
 subst osum
 cases os
 have hn8 := h0.n8
 show (Bpf TickV totR ⟨l, tk, Bd7 g, s0, t, ks, totR g t0, hit⟩ (i : Int)).run = _ ∨ ∃ q', (Bpf TickV totR ⟨l, tk, Bd7 g, s0, t, ks, totR g t0, hit⟩ (i : Int)).run = _ ∧ _ ∧ _
 unfold Bpf
 rw [decide_eq_true hd, cond_true, Cx3 (q := ⟨l, tk, Bd7 g, s0, t, ks, totR g t0, hit⟩) (n := n) ol (c.hl.trans hn) (hn ▸ c.kr) c.kl]
 cases ha : (ks : Kns).any nbK with
 | true => exact .inl rfl
 | false =>
  rw [cond_false]
  show (C0p TickV totR ⟨l, tk, Bd7 g, s0, t, [], totR g t0, Bkp hit ks⟩ (i : Int)).run = _ ∨ ∃ q', (C0p TickV totR ⟨l, tk, Bd7 g, s0, t, [], totR g t0, Bkp hit ks⟩ (i : Int)).run = _ ∧ _ ∧ _
  have e1 : C0p TickV totR ⟨l, tk, Bd7 g, s0, t, [], totR g t0, Bkp hit ks⟩ (i : Int) = Cge ⟨l, tk, Bd7 g, s0, t, [], totR g t0, Bkp hit ks⟩ (i : Int) (TickV g t) := by
   unfold C0p
   rw [show szT (lwG (Bd7 g)) _ = _ from Bco (l := g.1) hs]
   show (bif Be4 g t != 0 then _ else bif !C8w (totR g t) (totR g t0) then _ else bif ((t.1 : Bam).length : Int) != (l.length : Int) then _ else Cv5 TickV (iter Bmo (l.length + 1) (Bpd ⟨l, tk, Bd7 g, s0, t, [], totR g t0, Bkp hit ks⟩ (i : Int) 0)) : Byc) = _
   have hm : (t.1 : Bam).length = n := c.a.m.trans hn
   have hm0 : (s0.1 : Bam).length = n := h0.m.trans hn
   rw [Btf c.a, C0r c.a, C0r h1, Cp0 (C76 c.a) (C76 h1) (fun f p => c.d ha f p), hm, ol, bne_self_eq_false]
   simp only [Bool.not_true, cond_false]
   rw [← ol, Cx4 (q := ⟨l, tk, Bd7 g, s0, t, [], Bsu (msT t0), Bkp hit ks⟩) (n := n) (by omega) ol ((Btj _ _).trans (c.hl.trans hn)) hm hm0 (fun k hk => by
    have hk : Bc5 (Bkp hit ks) k = false := hk
    rw [Bzb ks hit c.hl (Clr c.kr ha), Bool.or_eq_false_iff] at hk
    exact (c.e k hk.1 hk.2).1)]
   show (szT (lwG (Bd7 g)) (Cge ⟨l, tk, Bd7 g, s0, t, [], Bsu (msT t0), Bkp hit ks⟩ (i : Int) (TickV g t)) : Byc) = _
   rw [show szT (lwG (Bd7 g)) _ = _ from Bco (l := g.1) hs]
  rw [e1]
  rcases Cgk c.a (by rw [c.tk]; exact fun e => by have e : (i : Int) = 4000 := e; omega) with e | ⟨r, hf, e⟩
  ·rw [e]; exact .inl rfl
  ·rw [e]
   refine .inr ⟨⟨l, tk, Bd7 g, s0, nxS t r, r.2.2, totR g t0, Bkp hit ks⟩, ?_, rfl, ol, rfl, rfl, rfl, c.tick hl (by omega) ha hf⟩
   show some (Sum.inl (Bki ⟨l, tk, Bd7 g, s0, nxS t r, r.2.2, totR g t0, Bkp hit ks⟩ (W64 ((i : Int) + 1)))) = _
   rw [Bba (n := (i : Int) + 1) (by omega) (by omega)]
   rfl
theorem Cgm {g : TCT cGr} {s0 t0 : TCT cSt} {n : Nat} (hs : (g.1.1.size : Int) ≤ Bb2 .i64) (hl : C30 g.1) (h0 : StaOk g s0) (h1 : StaOk g t0) (hn : (V1 g).length = n) : ∀ (k i m : Nat) (q : QTc), i + k = 31 → k + 1 ≤ m → OI g s0 t0 n i q → ∃ y, iter (Bj8 TickV totR) m (Bki q (i : Int)) = some y ∧ (y = Bj7 true ∨ y = C5h)
 | k, i, 0, q, _, hm, _ => by omega
 | k, i, m + 1, q, hk, hm, o => by
  cases hd : decide ((i : Int) ≤ Int.tmod (W64 q.tk) 31) with
  | false =>
   refine ⟨C5h, Bho ?_, .inr rfl⟩
   show (Bpf TickV totR q (i : Int)).run = _
   unfold Bpf
   rw [hd]
   rfl
  | true =>
   have hd' := of_decide_eq_true hd
   have h30 := Cx5 (t := q.tk)
   rcases Cgl hs hl h0 h1 hn (by omega) o hd' with e | ⟨q', e, _, o'⟩
   ·exact ⟨_, Bho e, .inl rfl⟩
   ·cases k with
    | zero => omega
    | succ k =>
     obtain ⟨y, e2, hy⟩ := Cgm hs hl h0 h1 hn k (i + 1) m q' (by omega) (by omega) o'
     exact ⟨y, (Bs4 e).trans e2, hy⟩
def bwN (x y p k : Int) : TCT cBl := (0, (x, (bif x == 0 && (y == 0 && true) then 1 else y), ()), p, k, ())
theorem Cx6 {x y p k n : Int} (h1 : -32768 ≤ x ∧ x ≤ 32767) (h2 : -32768 ≤ y ∧ y ≤ 32767) (h3 : 1 ≤ p ∧ p ≤ 2097152) (h4 : 0 ≤ k ∧ k ≤ 4) (hn : 1 ≤ n) : bwB n (bwN x y p k) = false := by
 unfold bwB bwN
 simp only
 have hf : fpt x (bif x == 0 && (y == 0 && true) then 1 else y) = true := by
  cases x == 0 && (y == 0 && true) <;> exact decide_eq_true (by simp only [cond_true, cond_false]; omega)
 have hz : (x == 0 && ((bif x == 0 && (y == 0 && true) then 1 else y) == 0 && true)) = false := by
  cases hx : x == 0 with
  | false => rfl
  | true =>
   cases hy : y == 0 with
   | true => rfl
   | false => simp only [Bool.true_and, Bool.false_and, cond_false, hy]
 rw [hf, hz, decide_eq_false (show ¬ (0 : Int) < 0 by decide), decide_eq_false (show ¬ (0 : Int) ≥ n by omega), decide_eq_false (show ¬ (p < 1) by omega), decide_eq_false (show ¬ (p > 2097152) by omega), decide_eq_false (show ¬ (k < 0) by omega), decide_eq_false (show ¬ (k > 4) by omega)]
 rfl
theorem D1r {p : Int} (h3 : 0 ≤ p ∧ p ≤ 4294967295) : W64 (1 + Int.tmod (W64 p) 2097152) = 1 + p % 2097152 := by
 rw [Bba (n := p) (by omega) (by omega), Int.tmod_eq_emod_of_nonneg h3.1, Bba (n := 1 + p % 2097152) (by omega) (by omega)]
theorem D1s {k : Int} (h4 : 0 ≤ k ∧ k ≤ 255) : Int.tmod (W64 k) 5 = k % 5 := by
 rw [Bba (n := k) (by omega) (by omega), Int.tmod_eq_emod_of_nonneg h4.1]
theorem D1t (p : Int) : 1 ≤ 1 + p % 2097152 ∧ 1 + p % 2097152 ≤ 2097152 := by omega
theorem D5j (k : Int) : 0 ≤ k % 5 ∧ k % 5 ≤ 4 := by omega
theorem w16 {x : Int} (h : -32768 ≤ x ∧ x ≤ 32767) : W64 x = x := Bba (by omega) (by omega)
theorem Cx7 {w : TCT Bm7} (hw : WFD Bm7 w) : Bfh w 0 = bwN w.1 w.2.1 (1 + w.2.2.1 % 2097152) (w.2.2.2.1 % 5) := by
 unfold Bfh bwN
 rw [D1r hw.2.2.1, D1s hw.2.2.2.1, w16 hw.1, w16 hw.2.1]
theorem Cx8 {w : TCT Bm7} (hw : WFD Bm7 w) {n : Int} (hn : 1 ≤ n) : bwB n (Bfh w 0) = false := by
 rw [Cx7 hw]
 exact Cx6 hw.1 hw.2.1 (D1t _) (D5j _) hn
theorem Cx9 {d s : Int} {x : TCT Bbw} {l : List (TCT Bd6)} (h : Bkh d s x l = true) : ∃ ps, Bpb d s l = .inl ps ∧ (Bf6 (gN d s x ps.length) ps).2.1 = 0 ∧ (msT (Bf6 (gN d s x ps.length) ps).1).length = l.length := by
 unfold Bkh at h
 cases ho : Bpb d s l with
 | inr ps => rw [ho] at h; cases h
 | inl ps =>
  rw [ho] at h
  have h : Cg3 l (Bf6 (gN d s x ps.length) ps) = true := h
  unfold Cg3 at h
  rw [Bool.and_eq_true, Bool.and_eq_true] at h
  refine ⟨ps, rfl, beq_iff_eq.1 h.1, ?_⟩
  have := beq_iff_eq.1 h.2.1
  omega
theorem Cxa {d s : Int} {x : TCT Bbw} {l : List (TCT Bd6)} (h : Bkh d s x l = true) : StaOk (Bhr d s x l) (Bk0 d s x l) ∧ Bew (Bk0 d s x l) = true ∧ (∀ j : Nat, Bc5 (osT (Bk0 d s x l)) j = false) ∧ (V1 (Bhr d s x l)).length = l.length ∧ (Bhr d s x l).1 = grn d s := by
 obtain ⟨ps, ho, he, hm⟩ := Cx9 h
 obtain ⟨a, b, c, e⟩ := D03 he
 unfold Bhr Bk0
 rw [ho]
 exact ⟨a, b, c, a.m.symm.trans hm, rfl⟩
theorem Cxb {l : List (TCT Bd6)} {w : TCT Bm7} {tk : Int} (x : TCT Bbw) (hw : WFD Bm7 w) (h0 : (l.length : Int) ≠ 0) (h4 : ¬ (l.length : Int) > 4) : (Cgj skV TickV totR l tk (Bhr 0 0 x l) (Bk0 0 0 x l) (Bkh 0 0 x l) (Bfh w 0)).sat (fun _ => True) := by
 unfold Cgj
 cases hb : Bkh 0 0 x l with
 | false => exact trivial
 | true =>
  obtain ⟨hS, hst, hout, hlen, hgr⟩ := Cxa hb
  have hf : C30 (Bhr 0 0 x l).1 := by rw [hgr]; exact D1q
  have hs : ((Bhr 0 0 x l).1.1.size : Int) ≤ Bb2 .i64 := by rw [hgr]; exact Bs9 0 0
  generalize Bhr 0 0 x l = g at *
  generalize Bk0 0 0 x l = s at *
  rw [Bool.not_true, cond_false, Bco hs]
  have hbw : bwB ((V1 g).length : Int) (Bfh w 0) = false := Cx8 hw (by omega)
  have k : SkOk g s (Bfh w 0) := ⟨hS, Cks hbw, hst, hout _⟩
  unfold Cv7
  cases he : (skV g s (Bfh w 0)).2.2.1 != 0 with
  | true =>
   rw [D01 k hbw (bne_iff_ne.1 he)]
   exact trivial
  | false =>
   have he' := bne_eq_false_iff_eq.1 he
   obtain ⟨t1, _⟩ := Clj he'
   rw [cond_false, Bco hs]
   show Tree.sat _ (bif Be4 g (skV g s (Bfh w 0)).1 != 0 then .fail else Cgi TickV totR l tk g s (skV g s (Bfh w 0)).1 (skV g s (Bfh w 0)).2.1 (totR g (skV g s (Bfh w 0)).1))
   rw [Btf t1, cond_false]
   unfold Cgi
   rw [decide_eq_true (by omega), cond_true, Bdt (by rw [List.length_replicate]; omega)]
   have hh : (C0q l.length).length = (V1 g).length := by
    unfold C0q
    rw [Bbf, List.length_replicate, hlen]; omega
   have hz : Bc5 (C0q l.length) (Int.toNat (Bfh w 0).1) = true := by
    show Bc5 (C0q l.length) 0 = true
    unfold C0q
    rw [Btk (by rw [List.length_replicate]; omega), show decide (0 = Int.toNat 0) = true from rfl, Bool.or_true]
   have ci := CI.zero (w := Bfh w 0) he' hh hz
   obtain ⟨y, e, hy⟩ := Cgm (n := l.length) hs hf hS t1 hlen 31 0 40 ⟨l, tk, Bd7 g, s, (skV g s (Bfh w 0)).1, (skV g s (Bfh w 0)).2.1, totR g (skV g s (Bfh w 0)).1, C0q l.length⟩ (by omega) (by omega) ⟨rfl, rfl, rfl, rfl, ci⟩
   rw [show iter (Bj8 TickV totR) 40 (Bki ⟨l, tk, Bd7 g, s, (skV g s (Bfh w 0)).1, (skV g s (Bfh w 0)).2.1, totR g (skV g s (Bfh w 0)).1, C0q l.length⟩ 0) = some y from e]
   rcases hy with rfl | rfl
   ·exact trivial
   ·exact trivial
theorem Cxc {l : List (TCT Bd6)} {w : TCT Bm7} {r tk : Int} (hw : WFD Bm7 w) : (Coy Bhr Bk0 Bkh Bfh skV TickV totR l w r tk).sat (fun _ => True) := by
 unfold Coy
 cases c0 : (l.length : Int) == 0 with
 | true => exact trivial
 | false =>
  cases c4 : decide ((l.length : Int) > 4) with
  | true => exact trivial
  | false =>
   have h4 := of_decide_eq_false c4
   have h0 : (l.length : Int) ≠ 0 := fun e => by rw [e] at c0; cases c0
   rw [cond_false, cond_false, decide_eq_true (show l.length ≤ 1000 by omega), cond_true]
   exact Cxb _ hw h0 h4
end Tp
open Tp
theorem topConserved_sat : LawSat X_topConserved 3 cs_topConserved 10 := D12 10 (fun y => Coy Bhr Bk0 Bkh Bfh St.skV St.TickV St.totR y.1 y.2.1 y.2.2.1 y.2.2.2.1) (Coz Bhr Bk0 Bkh Bfh St.skV St.TickV St.totR) fun _ hw => Cxc hw.2.1
end V
end Go.Proofs.YtcfanlgpkefogaaGreat
