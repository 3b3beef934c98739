import Derived.Test.YtkiaifmbbnnliaaGreatFm
namespace Go.Proofs.YtkiaifmbbnnliaaGreat
open Go.RowKit
namespace V
namespace St
def alE (b : Int) (i : Nat) (s : List Bool) : List Bool ⊕ Empty := .inl (s ++ [!((i : Int) == b)])
def Pv (n : Nat) (b : Int) : List Bool := unE (Ar (alE b) 0 n [])
structure InvB (b : Int) (i : Nat) (s : List Bool) : Prop where
 l : s.length = i
 g : ∀ j : Nat, j < i → Ft s j = !((j : Int) == b)
theorem Ad5 {n : Nat} {b : Int} : InvB b n (Pv n b) :=
 Ax (n := n) (Inv := fun i (s : List Bool) => InvB b i s) (fun i s s' _ h h2 => by
  cases h2
  have hl := h.l
  refine ⟨by rw [List.length_append, List.length_singleton, hl], fun j hj => ?_⟩
  unfold Ft
  rw [Hf (by omega)]
  by_cases e : j = s.length
  ·rw [if_pos e, e, hl]
  ·rw [if_neg e]; exact h.g j (by omega)) n 0 [] _ (by omega) ⟨rfl, fun _ h => absurd h (Nat.not_lt_zero _)⟩ (In (Ar (alE b) 0 n []))
structure InvV (i : Nat) (s : GA) : Prop where
 b : s.2.1.length = s.1.length
 m : s.2.2.length = s.1.length
 v : ∀ k : Nat, k < s.1.length → Lv (Ec s.2.1 k) (Ag s.2.2 k) = true
theorem B62 {bl : List (TCT A3)} {ms : Ae} {os : List Bool} {w fl : Int} {n : Nat} (q : RQ bl n ms os) : InvV n (gaV bl w fl n ms os) :=
 Ax (n := n) (Inv := InvV) (fun i s s' hi h h2 => by
  unfold gaE at h2
  have hb := h.b
  have hm := h.m
  cases hc : !Aq os i (Ao .b) && !Eg w fl i with
  | false => rw [hc] at h2; cases h2; exact ⟨hb, hm, h.v⟩
  | true =>
   rw [hc] at h2
   cases h2
   refine ⟨?_, ?_, fun k hk => ?_⟩
   ·show (s.2.1 ++ [Ec bl i]).length = (s.1 ++ [(i : Int)]).length
    rw [List.length_append, List.length_append, hb]; rfl
   ·show (s.2.2 ++ [Ag ms i]).length = (s.1 ++ [(i : Int)]).length
    rw [List.length_append, List.length_append, hm]; rfl
   ·have hk2 : k < (s.1 ++ [(i : Int)]).length := hk
    have hk' : k < s.1.length + 1 := by rw [List.length_append, List.length_singleton] at hk2; exact hk2
    show Lv (Aq (s.2.1 ++ [Ec bl i]) k (Ao A3)) (Aq (s.2.2 ++ [Ag ms i]) k (Ao Ai)) = true
    rw [Hf (by omega), Hf (by omega)]
    by_cases e : k = s.1.length
    ·rw [if_pos (by omega), if_pos (by omega)]; exact q.ok i hi
    ·rw [if_neg (by omega), if_neg (by omega)]; exact h.v k (by omega)) n 0 ([], [], []) _ (by omega) ⟨rfl, rfl, fun k hk => absurd hk (Nat.not_lt_zero k)⟩ (In (Ar (gaE bl ms os w fl) 0 n ([], [], [])))
theorem Amr : ∀ (l : List (TCT A3)) (s : Ae), l.length = s.length → (∀ k, k < l.length → Lv (Ec l k) (Ag s k) = true) → (l.zip s).all Iu = true
 | [], [], _, _ => rfl
 | [], _ :: _, h, _ => by simp at h
 | _ :: _, [], h, _ => by simp at h
 | b :: l, m :: s, h, k => by
  rw [List.zip_cons_cons, List.all_cons, Bool.and_eq_true]
  exact ⟨k 0 (by simp), Amr l s (by simpa using h) fun j hj => k (j + 1) (by simpa using hj)⟩
theorem Atx {a b : Int} {n : Nat} (h : 0 ≤ a) (k : a < b) (e1 : Int.toNat a = n) (e2 : Int.toNat b = n) : False := by omega
theorem B12 {bl : List (TCT A3)} {c : TCT Dz} {t st w fl : Int} {n b : Nat} {s : S2} (q : RQ bl n s.1 s.2.1) (hc : Gh c.1 c.2.1 = true) (h : ∀ j, j < n → Ft s.2.1 j = false → j = b) : ∃ r : Ae, seF bl c t st w fl n s = .inl (r, s.2.2) := by
 have hG : InvH s.1 s.2.1 n n (seG bl w fl n s) := Amf
 have hW : InvW n (seG bl w fl n s) := Axh
 have hV : InvV n (seG bl w fl n s) := B62 q
 have hb := hV.b
 have hm := hV.m
 have one : (seG bl w fl n s).1.length ≤ 1 := by
  by_cases h1 : 1 < (seG bl w fl n s).1.length
  ·have r0 := hG.g.r _ (Mq (show 0 < (seG bl w fl n s).1.length by omega) (Ao cI))
   have r1 := hG.g.r _ (Mq h1 (Ao cI))
   have e0 := h _ (Zq r0.1 r0.2) (hG.h 0 (by omega)).2
   have e1 := h _ (Zq r1.1 r1.2) (hG.h 1 h1).2
   exact absurd (Atx r0.1 (hW.s 0 1 (by omega) h1) e0 e1) id
  ·omega
 have ck : I4 (seG bl w fl n s).2.1 (seG bl w fl n s).2.2 = 0 := by
  unfold I4
  rw [decide_eq_false (show ¬ ((seG bl w fl n s).2.1.length : Int) > 8 by omega), show (((seG bl w fl n s).2.1.length : Int) != ((seG bl w fl n s).2.2.length : Int)) = false from bne_eq_false_iff_eq.2 (by omega), Amr _ _ (by omega) (fun k hk => hV.v k (by omega))]
  rfl
 have ou : Em (seG bl w fl n s).2.1 c.1 c.2.1 (seG bl w fl n s).2.1.length 0 ((seG bl w fl n s).2.2, []) = some ((seG bl w fl n s).2.2, []) := by
  by_cases h0 : (seG bl w fl n s).2.1.length = 0
  ·rw [h0, Ib]
  ·have h1 : (seG bl w fl n s).2.1.length = 1 := by omega
   rw [h1, Gp, h1]
   show Option.bind (V.inR (seG bl w fl n s).2.1 c.1 c.2.1 0 0 1 ((seG bl w fl n s).2.2, [])) _ = _
   rw [V.inR, Option.bind_some, Ib]
 have hs : seS bl c w fl n s = ((seG bl w fl n s).2.2, [], 0, ()) := by
  unfold seS Bi
  rw [ck, hc, ou]
  rfl
 refine ⟨scV (seG bl w fl n s).1 (seG bl w fl n s).2.2 s.1, ?_⟩
 unfold seF
 rw [hs]
 rfl
def sAl (s : TCT cSt) (b : Int) : TCT cSt := (msT s, Pv (osT s).length b, 0, 0, 0, ())
def wAl (w : TCT cBw) : TCT cBw := (w.1, (w.2.1.1, w.2.1.2.1, ()), w.2.2.1, 0, ())
theorem Aty {g : TCT cGr} (h : groE g = 0) : Gh g.2.2.1.1 g.2.2.1.2.1 = true := by
 unfold groE at h
 cases h1 : C8 g.1 != 0 with
 | true => rw [h1, cond_true] at h; exact absurd h (bne_iff_ne.1 h1)
 | false =>
  rw [h1, cond_false] at h
  cases h2 : decide (((A4 g).length : Int) < 1) || decide (((A4 g).length : Int) > 8) with
  | true => rw [h2] at h; cases h
  | false =>
   rw [h2, cond_false] at h
   cases h3 : okG g with
   | false => rw [h3] at h; cases h
   | true =>
    unfold okG at h3
    rw [Bool.and_eq_true] at h3
    exact h3.2
theorem Ams {n : Int} {w : TCT cBw} (h : BwOk n w) : bwB n (wAl w) = false := by
 unfold bwB wAl
 show (decide (w.1 < 0) || (decide (w.1 ≥ n) || (!fpt w.2.1.1 w.2.1.2.1 || ((w.2.1.1 == 0 && (w.2.1.2.1 == 0 && true)) || (decide (w.2.2.1 < 1) || (decide (w.2.2.1 > 2097152) || (decide ((0 : Int) < 0) || decide ((0 : Int) > 4)))))))) = false
 rw [decide_eq_false (Int.not_lt.2 h.b.1), decide_eq_false (Int.not_le.2 h.b.2), h.f, h.z, decide_eq_false (Int.not_lt.2 h.p.1), decide_eq_false (Int.not_lt.2 h.p.2)]
 rfl
theorem Ad6 {a : Int} {j : Nat} (h : 0 ≤ a) : ((j : Int) == a) = decide (j = Int.toNat a) := by
 by_cases e : j = Int.toNat a
 ·rw [decide_eq_true e]; exact beq_iff_eq.2 (by omega)
 ·rw [decide_eq_false e]; exact beq_eq_false_iff_ne.2 (by omega)
theorem B63 {g : TCT cGr} {s : TCT cSt} {w : TCT cBw} (k : SkOk g s w) : SkOk g (sAl s w.1) (wAl w) := by
 have hb := k.b
 have hm := k.sk.m
 have ho := k.sk.o
 have hi : Int.toNat w.1 < (A4 g).length := Zq hb.b.1 hb.b.2
 have ia := Ad5 (n := (osT s).length) (b := w.1)
 have og : ∀ j : Nat, j < (A4 g).length → Ft (Pv (osT s).length w.1) j = !decide (j = Int.toNat w.1) := fun j hj => by
  rw [ia.g j (by omega), Ad6 hb.b.1]
 obtain ⟨q, p⟩ := Rl k.sk
 have q1 : RQ (A4 g) (A4 g).length (msT s) (Pv (osT s).length w.1) := ⟨q.m, ia.l.trans ho, q.ok, fun j _ _ => A1p k.r j⟩
 have p1 : OL g.1 (A4 g).length (msT s) (Pv (osT s).length w.1) := fun j hj h => by
  rw [og j hj] at h
  have e : j = Int.toNat w.1 := by simpa using h
  exact p j hj (e ▸ k.o)
 refine ⟨Vk k.sk.gr k.sk.n1 k.sk.n8 q1 p1 ?_, Am4 (Ams hb), k.r, ?_⟩
 ·show (decide ((0 : Int) < 0) || (decide ((0 : Int) ≥ ((A4 g).length : Int)) || (decide ((0 : Int) < 0) || (decide ((0 : Int) > 8) || (decide ((0 : Int) < 0) || decide ((0 : Int) > 4000)))))) = false
  have h1 := k.sk.n1
  rw [decide_eq_false (show ¬ (0 : Int) ≥ ((A4 g).length : Int) by omega)]
  rfl
 ·show Ft (Pv (osT s).length w.1) (Int.toNat w.1) = false
  rw [og _ hi, decide_eq_true rfl]; rfl
theorem B13 {g : TCT cGr} {s : TCT cSt} {w : TCT cBw} (k : SkOk g s w) : (skV g (sAl s w.1) (wAl w)).2.2.1 = 0 ∧ StaOk g (skV g (sAl s w.1) (wAl w)).1 ∧ ∀ f : TCT cPt → Int, PartH f → smP f (msT (skV g (sAl s w.1) (wAl w)).1) = f (twP w) := by
 have k' := B63 k
 obtain ⟨k1, _, _⟩ := k'.set
 have hb := k.b
 have ho := k.sk.o
 have ia := Ad5 (n := (osT s).length) (b := w.1)
 have e : skV g (sAl s w.1) (wAl w) = skG g (sAl s w.1) (wAl w) := B11 k' (Ams hb)
 have z : (skV g (sAl s w.1) (wAl w)).2.2.1 = 0 := by
  rw [e]
  unfold skG
  show (skF (osT (sAl s w.1)) (wAl w) (seF (A4 g) g.2.2.1 0 0 (wAl w).1 0 (A4 g).length (Ov (msT (sAl s w.1)) (wAl w).1 (twP (wAl w)), osT (sAl s w.1), []))).2.2.1 = 0
  obtain ⟨r, hr⟩ := B12 (t := 0) (st := 0) (w := (wAl w).1) (fl := 0) (b := Int.toNat w.1) (s := (Ov (msT (sAl s w.1)) (wAl w).1 (twP (wAl w)), osT (sAl s w.1), [])) k1.q (Aty k.sk.gr) (fun j hj h => by
   have h2 : Ft (Pv (osT s).length w.1) j = false := h
   rw [ia.g j (by omega), Ad6 hb.b.1] at h2
   simpa using h2)
  rw [hr]
  rfl
 have l := Amq z
 exact ⟨z, l.1, fun f p => l.2 f p (.inr (.inl rfl))⟩
end St
end V
end Go.Proofs.YtkiaifmbbnnliaaGreat
