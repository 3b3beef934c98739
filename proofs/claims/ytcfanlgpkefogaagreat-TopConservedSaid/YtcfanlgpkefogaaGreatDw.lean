import Derived.Test.YtcfanlgpkefogaaGreatCq
namespace Go.Proofs.YtcfanlgpkefogaaGreat
open Go.RowKit
namespace V
namespace St
theorem is_sStrike2 : FnIs Tryz.prog (48, Tryz.f48) := ⟨Tryz.func48, by kernel_rfl, by kernel_rfl⟩
theorem is_sFollow : FnIs Tryz.prog (51, Tryz.f51) := ⟨Tryz.func51, by kernel_rfl, by kernel_rfl⟩
theorem is_sStrong : FnIs Tryz.prog (52, Tryz.f52) := ⟨Tryz.func52, by kernel_rfl, by kernel_rfl⟩
def Bpr (k : Int) : Int := bif 1 == k then 150 else bif 2 == k then 500 else bif 3 == k then 900 else 0
abbrev Cvu : PureT := Bbb [cI] [cI] (fun _ => true) (fun x => (Bpr x.1, ()))
def Ckp (k : Int) : Tree (TCTs [cI]) := bif 1 == k then .leaf (150, ()) else bif 2 == k then .leaf (500, ()) else bif 3 == k then .leaf (900, ()) else .leaf (0, ())
theorem Ckq (k : Int) : (Ckp k).sat (fun y => y = (Bpr k, ())) := by
 unfold Ckp Bpr
 cases (1 : Int) == k <;> cases (2 : Int) == k <;> cases (3 : Int) == k <;> exact rfl
theorem D49 : Bai Tryz.prog 51 Cvu := Bbd (Bp5 (u := 4) Ban puOk_nil (fns_cons is_sFollow Fq)) 6 (fun x => Ckp x.1) (fun x => by kernel_rfl) fun x _ _ => Ckq x.1
def Bw2 (k : Int) : Bool := decide (max k (W64 (0 - k)) > 16777216)
abbrev Cvv : PureT := Bbb [cI] [.b] (fun _ => true) (fun x => (Bw2 x.1, ()))
theorem D4a : Bai Tryz.prog 52 Cvv := Bbd (Bap Ban puOk_nil (fns_cons is_sStrong Fq)) 6 (fun x => .leaf (Bw2 x.1, ())) (fun x => by kernel_rfl) fun _ _ _ => rfl
abbrev cBw : TC := .st [cI, cPt, cI, cI]
abbrev plSk : List (Nat × PureT) := (51, Cvu) :: (52, Cvv) :: (23, Bwf) :: (43, Bhz) :: (25, Byq) :: plGm
theorem puSk : Bc7 Tryz.prog plSk := puOk_cons is_sFollow.plain D49 (puOk_cons is_sStrong.plain D4a (puOk_cons is_Towards.plain Cck (puOk_cons is_tChk.plain Bjg (puOk_cons is_Posts.plain C9g puGm))))
noncomputable def D7j : List (Nat × Func) := [(11, Tryz.f11), (48, Tryz.f48), (45, Tryz.f45), (47, Tryz.f47), (97, Tryz.f97), (49, Tryz.f49), (95, Tryz.f95), (96, Tryz.f96)]
noncomputable def D4b (Y : YK) : Ctx := Bv8 Tryz.prog plSk D7j [] [(50, Cd9 46 Y)]
theorem Bhe {α : Type} {d : α} (l : List α) (i j : Nat) (x : α) : Bat (Bb7 l i x) j d = x ∨ Bat (Bb7 l i x) j d = Bat l j d := by
 rw [Bbe, Bdg, Bdg, List.getD_eq_getElem?_getD, List.getD_eq_getElem?_getD, List.getElem?_set]
 by_cases h : i = j
 ·subst h
  rw [if_pos rfl]
  by_cases h2 : i < l.length
  ·rw [if_pos h2]; exact .inl rfl
  ·rw [if_neg h2, List.getElem?_eq_none (Nat.le_of_not_lt h2)]; exact .inr rfl
 ·rw [if_neg h]; exact .inr rfl
def smB (m : TCT Bau) : Bool := Bb3 m.2.1.1 m.2.1.2.1
def SM (l : Bam) : Prop := ∀ j : Nat, smB (Bah l j) = true
theorem SM.set {l : Bam} {i : Nat} {x : TCT Bau} (h : SM l) (hx : smB x = true) : SM (Bb7 l i x) := fun j => by
 unfold Bah
 rcases Bhe (d := Bar Bau) l i j x with e | e
 ·rw [e]; exact hx
 ·rw [e]; exact h j
theorem Cz9 {a b : Bm} {k : Bme} (h : (Bfc a b k).2.2.1 = 0) : smB (Bfc a b k).1 = true ∧ smB (Bfc a b k).2.1 = true := by
 unfold Bfc at h ⊢
 cases h1 : k.2.1 != 0 with
 | true => rw [h1] at h; exact absurd h (bne_iff_ne.1 h1)
 | false =>
  rw [h1] at h
  simp only [cond_false] at h ⊢
  cases h2 : Bb3 (W64 (a.mx - k.1.1)) (W64 (a.my - k.1.2.1)) with
  | false => rw [h2] at h; cases h
  | true =>
   rw [h2] at h
   simp only [Bool.not_true, cond_false] at h ⊢
   cases h3 : Bb3 (W64 (b.mx + k.1.1)) (W64 (b.my + k.1.2.1)) with
   | false => rw [h3] at h; cases h
   | true => exact ⟨h2, h3⟩
theorem C2n {l : List (TCT No)} {re dr : Int} {i k : Nat} {s s' : SS} (h : Bdm l re dr i k s = some s') (hs : SM s.1) : SM s'.1 := by
 unfold Bdm at h
 cases h1 : (Bbm (bAt l s.1 i) (bAt l s.1 k) re dr).2.2.1 == 0 with
 | true =>
  rw [h1] at h
  simp only [cond_true, Option.some.injEq] at h
  subst h
  have b := Cz9 (a := bAt l s.1 i) (b := bAt l s.1 k) (k := Bqv (bAt l s.1 i) (bAt l s.1 k) re dr) (beq_iff_eq.1 h1)
  exact SM.set (SM.set hs b.1) b.2
 | false =>
  rw [h1, cond_false] at h
  cases h2 : (Bbm (bAt l s.1 i) (bAt l s.1 k) re dr).2.2.1 == 4 with
  | true => rw [h2] at h; simp at h
  | false => rw [h2] at h; simp only [cond_false, Option.some.injEq] at h; subst h; exact hs
theorem C6x {l : List (TCT No)} {re dr : Int} {i : Nat} : ∀ (f k : Nat) (s s' : SS), V.inR l re dr i f k s = some s' → SM s.1 → SM s'.1
 | 0, k, s, s', h, hs => by rw [V.inR, Option.some.injEq] at h; subst h; exact hs
 | f + 1, k, s, s', h, hs => by
  rw [V.inR] at h
  cases h1 : Bdm l re dr i k s with
  | none => rw [h1] at h; simp at h
  | some s1 =>
   rw [h1, Option.bind_some] at h
   exact C6x f (k + 1) s1 s' h (C2n h1 hs)
theorem Cae {l : List (TCT No)} {re dr : Int} : ∀ (f i : Nat) (s s' : SS), Bfq l re dr f i s = some s' → SM s.1 → SM s'.1
 | 0, i, s, s', h, hs => by rw [Biv, Option.some.injEq] at h; subst h; exact hs
 | f + 1, i, s, s', h, hs => by
  rw [Bh3] at h
  cases h1 : V.inR l re dr i (l.length - (i + 1)) (i + 1) s with
  | none => rw [h1] at h; simp at h
  | some s1 =>
   rw [h1, Option.bind_some] at h
   exact Cae f (i + 1) s1 s' h (C6x _ _ _ _ h1 hs)
theorem C6y : ∀ (l : List (TCT No)) (s : Bam), l.length = s.length → (l.zip s).all Bmx = true → SM s
 | [], [], _, _ => fun _ => rfl
 | [], _ :: _, h, _ => by simp at h
 | _ :: _, [], h, _ => by simp at h
 | b :: l, m :: s, h, k => by
  rw [List.zip_cons_cons, List.all_cons, Bool.and_eq_true] at k
  have h' : l.length = s.length := by simpa using h
  have ih := C6y l s h' k.2
  intro j
  cases j with
  | zero =>
   have := k.1
   unfold Bmx Bm.ok Bn1 at this
   simp only [Bool.and_eq_true] at this
   exact this.2.2.1
  | succ j => exact ih j
theorem Bx5 {l : List (TCT No)} {s : Bam} {re dr : Int} (h : (Bbr l s re dr).2.2.1 = 0) : SM (Bbr l s re dr).1 := by
 unfold Bbr at h ⊢
 cases h1 : Bjf l s != 0 with
 | true => rw [h1, cond_true] at h; exact absurd h (bne_iff_ne.1 h1)
 | false =>
  rw [h1, cond_false] at h
  simp only [cond_false]
  cases h2 : !Bfi re dr with
  | true => rw [h2] at h; cases h
  | false =>
   rw [h2, cond_false] at h
   simp only [cond_false]
   cases h3 : Bfq l re dr l.length 0 (s, []) with
   | none => rw [h3] at h; cases h
   | some s' =>
    obtain ⟨_, k2, k3⟩ := C7b (bne_eq_false_iff_eq.1 h1)
    have hz : SM s := C6y l s k2 k3
    exact Cae _ _ _ _ h3 hz
theorem Cza {W : List Int} {M ms : Bam} (hM : SM M) (hs : SM ms) : SM (scV W M ms) :=
 Bb1 (n := W.length) (Inv := fun _ (s : Bam) => SM s) (fun i s s' _ h h2 => by
  cases h2
  exact SM.set h (hM i)) W.length 0 ms _ (by omega) hs (Bgk (Baw (scE W M) 0 W.length ms))
theorem Czb {bl : List (TCT No)} {c : TCT Bbw} {t st w fl : Int} {n : Nat} {s : S2} {r : Bam × Kns} (h : seF bl c t st w fl n s = .inl r) (hs : SM s.1) : SM r.1 := by
 unfold seF at h
 cases he : (seS bl c w fl n s).2.2.1 != 0 with
 | true => rw [he] at h; cases h
 | false =>
  rw [he] at h
  cases h
  exact Cza (Bx5 (bne_eq_false_iff_eq.1 he)) hs
theorem D4c {n d l : Int} (hd : 1 ≤ d) (h1 : -(l * d) ≤ n) (h2 : n ≤ l * d) : -l ≤ DW n d ∧ DW n d ≤ l := by
 unfold DW
 have e1 : (-l) * (2 * d) = -(2 * (l * d)) := by grind
 have e2 : (l + 1) * (2 * d) = 2 * (l * d) + 2 * d := by grind
 refine ⟨Int.le_ediv_of_mul_le (by omega) (by omega), ?_⟩
 have : (2 * n + d) / (2 * d) < l + 1 := Int.ediv_lt_of_lt_mul (by omega) (by omega)
 omega
theorem Cvw {x y d : Int} (h : (x * x + y * y) * 4096 < (d + 1) * (d + 1)) (hd : 0 ≤ d) : -d ≤ 64 * x ∧ 64 * x ≤ d := by
 have hy : 0 ≤ y * y := Bgy y
 constructor
 ·by_cases k : -d ≤ 64 * x
  ·exact k
  ·have a : d + 1 ≤ -(64 * x) := by omega
   have b := Int.mul_le_mul a a (by omega) (by omega)
   have e : -(64 * x) * -(64 * x) = (x * x) * 4096 := by grind
   rw [e] at b
   omega
 ·by_cases k : 64 * x ≤ d
  ·exact k
  ·have a : d + 1 ≤ 64 * x := by omega
   have b := Int.mul_le_mul a a (by omega) (by omega)
   have e : 64 * x * (64 * x) = (x * x) * 4096 := by grind
   rw [e] at b
   omega
theorem Cvx {x d l : Int} (hd : 1 ≤ d) (hl : 0 ≤ l) (h : -d ≤ 64 * x ∧ 64 * x ≤ d) : -l ≤ ToX x 0 d l ∧ ToX x 0 d l ≤ l := by
 unfold ToX
 have e : 64 * l * (x - 0) = l * (64 * x) := by grind
 have a := Int.mul_le_mul_of_nonneg_left h.1 hl
 have b := Int.mul_le_mul_of_nonneg_left h.2 hl
 rw [Int.mul_neg] at a
 rw [e, Int.zero_add]
 exact D4c hd a b
theorem Ckr {x y l : Int} (hf : fpt x y = true) (hne : (x == 0 && (y == 0 && true)) = false) (hl : 1 ≤ l ∧ l ≤ 2097152) : (TwR x y 0 0 l).2 = 0 ∧ (-2097152 ≤ (TwR x y 0 0 l).1.1 ∧ (TwR x y 0 0 l).1.1 ≤ 2097152) ∧ (-2097152 ≤ (TwR x y 0 0 l).1.2 ∧ (TwR x y 0 0 l).1.2 ≤ 2097152) := by
 have h0 : fpt 0 0 = true := by decide
 rw [Bool.and_true] at hne
 have hne2 : ¬ (x = 0 ∧ y = 0) := by
  intro hh; rw [hh.1, hh.2] at hne; cases hne
 have hd := Cmj hf h0 hne2
 have hs := Cb8 hf h0
 obtain ⟨r1, r2, r3⟩ := Bg5 (sq x y 0 0 * 4096) (by omega)
 have hdd : dTo x y 0 0 = rt (sq x y 0 0 * 4096) := rfl
 rw [← hdd] at r1 r2 r3
 have hsq : sq x y 0 0 = x * x + y * y := by unfold sq; grind
 rw [hsq] at r3
 have a := Cvw r3 r1
 have b := Cvw (x := y) (y := x) (d := dTo x y 0 0) (by rw [Int.add_comm (y * y)]; exact r3) r1
 have c1 := Cvx hd.1 (show 0 ≤ l by omega) a
 have c2 := Cvx hd.1 (show 0 ≤ l by omega) b
 have ho : Bb6 l 0 4194304 = false := by
  unfold Bb6
  rw [decide_eq_false (show ¬ l < 0 by omega), decide_eq_false (show ¬ 4194304 < l by omega)]; rfl
 have hfp : fpt (ToX x 0 (dTo x y 0 0) l) (ToX y 0 (dTo x y 0 0) l) = true := by
  unfold fpt
  exact decide_eq_true (by omega)
 have e : TwR x y 0 0 l = ((ToX x 0 (dTo x y 0 0) l, ToX y 0 (dTo x y 0 0) l), 0) := by
  unfold TwR
  rw [hf, h0, ho, hne, hfp]; rfl
 rw [e]
 exact ⟨rfl, ⟨by show -2097152 ≤ ToX x 0 _ l; omega, by show ToX x 0 _ l ≤ 2097152; omega⟩, ⟨by show -2097152 ≤ ToX y 0 _ l; omega, by show ToX y 0 _ l ≤ 2097152; omega⟩⟩
end St
end V
end Go.Proofs.YtcfanlgpkefogaaGreat
namespace Go.Proofs.YtcfanlgpkefogaaGreat
open Go.RowKit
namespace V
namespace St
def bwT {β : Type} (n : Int) (w : TCT cBw) (bad go : Tree β) : Tree β := bif decide (w.1 < 0) then bad else bif decide (w.1 ≥ n) then bad else bif Bfr w.2.1.1 w.2.1.2.1 != 0 then bad else bif w.2.1.1 == 0 && (w.2.1.2.1 == 0 && true) then bad else bif decide (w.2.2.1 < 1) then bad else bif decide (w.2.2.1 > 2097152) then bad else bif decide (w.2.2.2.1 < 0) then bad else bif decide (w.2.2.2.1 > 4) then bad else go
def bwB (n : Int) (w : TCT cBw) : Bool := decide (w.1 < 0) || (decide (w.1 ≥ n) || (!fpt w.2.1.1 w.2.1.2.1 || ((w.2.1.1 == 0 && (w.2.1.2.1 == 0 && true)) || (decide (w.2.2.1 < 1) || (decide (w.2.2.1 > 2097152) || (decide (w.2.2.2.1 < 0) || decide (w.2.2.2.1 > 4)))))))
theorem Czc {β : Type} {n : Int} {w : TCT cBw} {bad go : Tree β} : bwT n w bad go = bif bwB n w then bad else go := by
 unfold bwT bwB
 rw [C9i]
 cases decide (w.1 < 0) <;> cases decide (w.1 ≥ n) <;> cases fpt w.2.1.1 w.2.1.2.1 <;> cases w.2.1.1 == 0 && (w.2.1.2.1 == 0 && true) <;> cases decide (w.2.2.1 < 1) <;> cases decide (w.2.2.1 > 2097152) <;> cases decide (w.2.2.2.1 < 0) <;> cases decide (w.2.2.2.1 > 4) <;> rfl
structure BwOk (n : Int) (w : TCT cBw) : Prop where
 b : 0 ≤ w.1 ∧ w.1 < n
 f : fpt w.2.1.1 w.2.1.2.1 = true
 z : (w.2.1.1 == 0 && (w.2.1.2.1 == 0 && true)) = false
 p : 1 ≤ w.2.2.1 ∧ w.2.2.1 ≤ 2097152
 k : 0 ≤ w.2.2.2.1 ∧ w.2.2.2.1 ≤ 4
theorem Cks {n : Int} {w : TCT cBw} (h : bwB n w = false) : BwOk n w := by
 unfold bwB at h
 rw [Bool.or_eq_false_iff, Bool.or_eq_false_iff, Bool.or_eq_false_iff, Bool.or_eq_false_iff, Bool.or_eq_false_iff, Bool.or_eq_false_iff, Bool.or_eq_false_iff] at h
 obtain ⟨h1, h2, h3, h4, h5, h6, h7, h8⟩ := h
 have a1 := of_decide_eq_false h1
 have a2 := of_decide_eq_false h2
 have a5 := of_decide_eq_false h5
 have a6 := of_decide_eq_false h6
 have a7 := of_decide_eq_false h7
 have a8 := of_decide_eq_false h8
 exact ⟨⟨Int.not_lt.1 a1, Int.not_le.1 a2⟩, by simpa using h3, h4, ⟨Int.not_lt.1 a5, Int.not_lt.1 a6⟩, ⟨Int.not_lt.1 a7, Int.not_lt.1 a8⟩⟩
def twP (w : TCT cBw) : TCT cPt := ((TwR w.2.1.1 w.2.1.2.1 0 0 w.2.2.1).1.1, (TwR w.2.1.1 w.2.1.2.1 0 0 w.2.2.1).1.2, ())
def twE (w : TCT cBw) : Int := (TwR w.2.1.1 w.2.1.2.1 0 0 w.2.2.1).2
def Bhp (ms : Bam) (b : Int) (v : TCT cPt) : Bam := Bb7 ms (Int.toNat b) ((Bah ms (Int.toNat b)).1, (v.1, v.2.1, ()), (Bah ms (Int.toNat b)).2.2.1, ())
def mX (ms : Bam) (b d : Int) : Bam := Bb7 ms (Int.toNat b) ((Bah ms (Int.toNat b)).1, (W64 ((Bah ms (Int.toNat b)).2.1.1 + d), (Bah ms (Int.toNat b)).2.1.2.1, ()), (Bah ms (Int.toNat b)).2.2.1, ())
def mY (ms : Bam) (b d : Int) : Bam := Bb7 ms (Int.toNat b) ((Bah ms (Int.toNat b)).1, ((Bah ms (Int.toNat b)).2.1.1, W64 ((Bah ms (Int.toNat b)).2.1.2.1 + d), ()), (Bah ms (Int.toNat b)).2.2.1, ())
def fwD (m k : Int) : Int := W64 (Int.tdiv (W64 (m * Bpr k)) 1000)
def chB {β : Type} (ms : Bam) (b : Int) (k : Tree β) : Tree β := bif decide (Int.toNat b < ms.length) then k else .fail
theorem Bkn {β : Type} {ms : Bam} {b : Int} {k : Tree β} {n : Nat} (h : 0 ≤ b ∧ b < (n : Int)) (hl : ms.length = n) : chB ms b k = k := by
 unfold chB
 rw [decide_eq_true (show Int.toNat b < ms.length by omega)]; rfl
theorem C6z {ms : Bam} {b d : Int} : (mX ms b d).length = ms.length := Bbf _ _ _
theorem Czd {ms : Bam} {b d : Int} : (mY ms b d).length = ms.length := Bbf _ _ _
theorem C2o {ms : Bam} {b : Int} {v : TCT cPt} : (Bhp ms b v).length = ms.length := Bbf _ _ _
def C2p (ms : Bam) (os : List Bool) (b fl : Int) (ks : Kns) : TkR := ((ms, os, b, fl, 0, ()), ks, 0, ())
def skM (ms : Bam) (w : TCT cBw) : Bam := mY (mX ms w.1 (fwD (twP w).1 w.2.2.2.1)) w.1 (fwD (twP w).2.1 w.2.2.2.1)
def C2q (ms : Bam) (b : Int) : Bool := Bw2 (Bah ms (Int.toNat b)).2.1.1 || Bw2 (Bah ms (Int.toNat b)).2.1.2.1
def skF (os : List Bool) (w : TCT cBw) : (Bam × Kns) ⊕ Int → TkR
 | .inr e => Bje e
 | .inl (ms, ks) => bif decide ((ks.length : Int) > 0) then bif C2q (skM ms w) w.1 then Bje 4 else C2p (skM ms w) os w.1 0 ks else C2p ms os w.1 0 ks
def skG (g : TCT cGr) (s : TCT cSt) (w : TCT cBw) : TkR := bif w.2.2.2.1 == 4 then C2p (Bhp (msT s) w.1 (twP w)) (osT s) w.1 8 [] else skF (osT s) w (seF (V1 g) g.2.2.1 0 0 w.1 0 (V1 g).length (Bhp (msT s) w.1 (twP w), osT s, []))
def skV (g : TCT cGr) (s : TCT cSt) (w : TCT cBw) : TkR := bif Be4 g s != 0 then Bje (Be4 g s) else bif bwB ((V1 g).length : Int) w then Bje 2 else bif !Bew s || Bat (osT s) (Int.toNat w.1) (Bar .b) then Bje 10 else skG g s w
abbrev Cdb : PureT := Bbb [cGr, cSt, cBw] [cSt, .sl cKn, cI] (fun x => decide ((x.1.1.1.size : Int) ≤ Bb2 .i64)) (fun x => C2l (skV x.1 x.2.1 x.2.2.1))
def gS (g : TCT cGr) (s : TCT cSt) (ms : Bam) (b : Int) : GB := ((g.1.1, g.1.2.1, g.1.2.2.1, g.1.2.2.2.1, g.1.2.2.2.2.1, g.1.2.2.2.2.2.1.1.1, g.1.2.2.2.2.2.1.1.2.1, g.1.2.2.2.2.2.1.2.1, g.1.2.2.2.2.2.2.1, g.1.2.2.2.2.2.2.2.1, g.1.2.2.2.2.2.2.2.2.1, g.2.1, g.2.2.1.1, g.2.2.1.2.1, Bgj g.1, ms, ([] ++ s.2.1), b, 0, 0, 0, ((), (), ()), ()), ([], ()), ())
def lfT (r : TkR) : TTR := .leaf r
def Cvy (os : List Bool) (w : TCT cBw) (ks : Kns) (ms : Bam) : TTR := chB ms w.1 (bif Bw2 (Bah ms (Int.toNat w.1)).2.1.1 then lfT (Bje 4) else chB ms w.1 (bif Bw2 (Bah ms (Int.toNat w.1)).2.1.2.1 then lfT (Bje 4) else lfT (C2p ms os w.1 0 ks)))
def Ckt (os : List Bool) (w : TCT cBw) (ms : Bam) (ks : Kns) : TTR := bif decide ((ks.length : Int) > 0) then chB ms w.1 (chB ms w.1 (chB (mX ms w.1 (fwD (twP w).1 w.2.2.2.1)) w.1 (chB (mX ms w.1 (fwD (twP w).1 w.2.2.2.1)) w.1 (Cvy os w ks (skM ms w))))) else lfT (C2p ms os w.1 0 ks)
def Cku (Y : YK) (g : TCT cGr) (s : TCT cSt) (w : TCT cBw) : TTR := bif w.2.2.2.1 == 4 then
  bif twE w != 0 then bif twE w != 0 then lfT (Bje (twE w)) else lfT (C2p (msT s) (osT s) w.1 8 []) else inN ([] ++ s.1 : Bam).length w.1 (chB ([] ++ s.1) w.1 (lfT (C2p (Bhp ([] ++ s.1) w.1 (twP w)) ([] ++ s.2.1) w.1 8 [])))
 else bif twE w != 0 then bif twE w != 0 then lfT (Bje (twE w)) else lfT (C2p (msT s) (osT s) w.1 0 []) else inN ([] ++ s.1 : Bam).length w.1 (chB ([] ++ s.1) w.1 (thY (Y (gS g s (Bhp ([] ++ s.1) w.1 (twP w)) w.1)) zM (fun e => bif e != 0 then lfT (Bje e) else .fail) fun r => Ckt ([] ++ s.2.1) w r.1 r.2))
def Crx (Y : YK) (g : TCT cGr) (s : TCT cSt) (w : TCT cBw) : TTR := szT g.1 (bif Be4 g s != 0 then lfT (Bje (Be4 g s)) else bwT ((V1 g).length : Int) w (lfT (Bje 2)) (bif !Bew s then lfT (Bje 10) else inN (osT s).length w.1 (bif Bat (osT s) (Int.toNat w.1) (Bar .b) then lfT (Bje 10) else szT g.1 (neT (msT s) (acT (msT s) 48 (neT (osT s) (acT (osT s) 1 (Cku Y g s w))))))))
theorem Cry (Y : YK) (x : TCTs [cGr, cSt, cBw]) : Bcv (D4b Y) 8 (.fn 11) (Bde [cGr, cSt, cBw] x) Bbv 0 (Bgq Tryz.prog [cSt, .sl cKn, cI]) = Crx Y x.1 x.2.1 x.2.2.1 := by kernel_rfl
theorem Crz : CtxOk (D4b Bmv) := Bg9 Ban puSk (fns_cons is_sStrike (fns_cons is_sStrike2 (fns_cons is_newGame (fns_cons is_sTry (fns_cons is_sTry1 (fns_cons is_must (fns_cons is_clMot (fns_cons is_clBool Fq)))))))) Bir (fun p hp => by
 rw [List.mem_singleton] at hp; subst hp; exact ⟨is_gsettle.plain, by rw [Cd9, Bz3]; exact Cr8⟩)
end St
end V
end Go.Proofs.YtcfanlgpkefogaaGreat
namespace Go.Proofs.YtcfanlgpkefogaaGreat
open Go.RowKit
namespace V
namespace St
theorem Caf {bl : List (TCT No)} {c : TCT Bbw} {t st w fl : Int} {n : Nat} {s : S2} {r : Bam × Kns} (h : seF bl c t st w fl n s = .inl r) : r.1.length = s.1.length := by
 unfold seF at h
 cases he : (seS bl c w fl n s).2.2.1 != 0 with
 | true => rw [he] at h; cases h
 | false =>
  rw [he] at h
  cases h
  exact Ca5
theorem Cs0 {g : TCT cGr} {s : TCT cSt} {ms : Bam} {b : Int} (hs : (g.1.1.size : Int) ≤ Bb2 .i64) (h : StaOk g s) (hm : ms.length = (V1 g).length) : Bmv (gS g s ms b) = some (seF (V1 g) g.2.2.1 0 0 b 0 (V1 g).length (ms, osT s, [])) := by
 unfold Bmv
 rw [show Bmu (gS g s ms b) = true by
  unfold Bmu
  simp only [Bool.and_eq_true, decide_eq_true_eq]
  refine ⟨Bfa.2 ⟨hs, hm, ?_, h.n8⟩, by show (0 : Nat) ≤ 900000; omega⟩
  show ([] ++ s.2.1 : List Bool).length = (V1 g).length
  rw [List.nil_append]; exact h.o]
 rfl
theorem Ckv {os : List Bool} {w : TCT cBw} {ms : Bam} {ks : Kns} {n : Nat} (hb : 0 ≤ w.1 ∧ w.1 < (n : Int)) (hm : ms.length = n) : (Ckt os w ms ks).sat (fun y => y = C2l (skF os w (.inl (ms, ks)))) := by
 unfold Ckt skF
 simp only
 cases decide ((ks.length : Int) > 0) with
 | false => exact rfl
 | true =>
  simp only [cond_true]
  rw [Bkn hb hm, Bkn hb hm, Bkn hb (C6z.trans hm), Bkn hb (C6z.trans hm)]
  unfold Cvy
  have hl : (skM ms w).length = n := by unfold skM; rw [Czd, C6z]; exact hm
  rw [Bkn hb hl, Bkn hb hl]
  unfold C2q
  cases Bw2 (Bah (skM ms w) (Int.toNat w.1)).2.1.1 with
  | true => exact rfl
  | false => cases Bw2 (Bah (skM ms w) (Int.toNat w.1)).2.1.2.1 <;> exact rfl
theorem Ckw {g : TCT cGr} {s : TCT cSt} {w : TCT cBw} (hs : (g.1.1.size : Int) ≤ Bb2 .i64) (h : StaOk g s) (hb : BwOk ((V1 g).length : Int) w) : (Cku Bmv g s w).sat (fun y => y = C2l (skG g s w)) := by
 have tw := Ckr hb.f hb.z hb.p
 have he : (twE w != 0) = false := bne_eq_false_iff_eq.2 tw.1
 unfold Cku skG
 rw [he]
 simp only [cond_false]
 have hms : ([] ++ s.1 : Bam).length = (V1 g).length := by rw [List.nil_append]; exact h.m
 have hin : 0 ≤ w.1 ∧ w.1 < (([] ++ s.1 : Bam).length : Int) := ⟨hb.b.1, by rw [hms]; exact hb.b.2⟩
 cases w.2.2.2.1 == 4 with
 | true => simp only [cond_true]; rw [Bdb hin, Bkn hb.b hms]; exact rfl
 | false =>
  simp only [cond_false]
  rw [Bdb hin, Bkn hb.b hms]
  have hy := Cs0 (b := w.1) hs h (C2o (b := w.1) (v := twP w).trans hms)
  have e : Bhp ([] ++ s.1) w.1 (twP w) = Bhp (msT s) w.1 (twP w) := rfl
  rw [e] at hy ⊢
  cases hf : seF (V1 g) g.2.2.1 0 0 w.1 0 (V1 g).length (Bhp (msT s) w.1 (twP w), osT s, []) with
  | inr x => rw [hf] at hy; rw [Bx2 hy, show (x != 0) = true from bne_iff_ne.2 (Bz6 hf)]; exact rfl
  | inl r =>
   rw [hf] at hy
   rw [Bx1 hy]
   obtain ⟨ms, ks⟩ := r
   have hl := Caf hf
   exact Ckv hb.b (hl.trans (C2o.trans h.m))
theorem Cs1 {g : TCT cGr} {s : TCT cSt} {w : TCT cBw} (hs : (g.1.1.size : Int) ≤ Bb2 .i64) : (Crx Bmv g s w).sat (fun y => y = C2l (skV g s w)) := by
 unfold Crx skV
 rw [Bco hs, Bco hs, Czc]
 cases h1 : Be4 g s != 0 with
 | true => exact rfl
 | false =>
  have h := C6w (bne_eq_false_iff_eq.1 h1)
  have hn1 := h.n1
  have hn8 := h.n8
  have hm := h.m
  have ho := h.o
  simp only [cond_false]
  cases h2 : bwB ((V1 g).length : Int) w with
  | true => exact rfl
  | false =>
   have hb := Cks h2
   simp only [cond_false]
   cases Bew s with
   | false => exact rfl
   | true =>
    simp only [Bool.not_true, cond_false, Bool.false_or]
    rw [Bdb ⟨hb.b.1, by rw [ho]; exact hb.b.2⟩]
    cases Bat (osT s) (Int.toNat w.1) (Bar .b) with
    | true => exact rfl
    | false =>
     simp only [cond_false]
     rw [Bz7 (by omega), Bz8 (by omega) (by decide), Bz7 (by omega), Bz8 (by omega) (by decide)]
     exact Ckw hs h hb
theorem Cdc : Bai Tryz.prog 11 Cdb := Bbd Crz 8 (fun x => Crx Bmv x.1 x.2.1 x.2.2.1) (Cry Bmv) fun _ hok _ => Cs1 (of_decide_eq_true hok)
end St
end V
end Go.Proofs.YtcfanlgpkefogaaGreat
namespace Go.Proofs.YtcfanlgpkefogaaGreat
open Go.RowKit
namespace V
namespace St
theorem Cs4 {l : TCT Bao} {os : List Bool} {w fl : Int} {i : Nat} {ms ms' : Bam} (h : slE l os w fl i ms = .inl ms') : ms'.length = ms.length := by
 unfold slE at h
 cases h1 : !Bbs ms os i || Bdp w fl i with
 | true => rw [h1] at h; cases h; rfl
 | false =>
  rw [h1] at h
  cases h2 : Bed l (Bah ms i).1 != 0 with
  | true => rw [h2] at h; cases h
  | false =>
   rw [h2] at h
   cases h3 : (Bkb l (Bah ms i)).2.1 != 0 with
   | true => rw [h3] at h; cases h
   | false => rw [h3] at h; cases h; exact Bbf _ _ _
end St
end V
end Go.Proofs.YtcfanlgpkefogaaGreat
namespace Go.Proofs.YtcfanlgpkefogaaGreat
open Go.RowKit
namespace V
namespace St
end St
end V
end Go.Proofs.YtcfanlgpkefogaaGreat
namespace Go.Proofs.YtcfanlgpkefogaaGreat
open Go.RowKit
namespace V
namespace St
end St
end V
end Go.Proofs.YtcfanlgpkefogaaGreat
namespace Go.Proofs.YtcfanlgpkefogaaGreat
open Go.RowKit
namespace V
namespace St
end St
end V
end Go.Proofs.YtcfanlgpkefogaaGreat
