import Derived.Test.YtkiaifmbbnnliaaGreatEp
import Derived.Test.YtkiaifmbbnnliaaGreatDw
namespace Go.Proofs.YtkiaifmbbnnliaaGreat
open Go.RowKit
namespace V
def mapS {A B C D : Type} (f : A → C) (g : B → D) : A ⊕ B → C ⊕ D
  | .inl a => .inl (f a)
  | .inr b => .inr (g b)
theorem foldN_map {S B : Type} {f : Nat → S → S ⊕ B} {φ : S → S} {ψ : B → B} (h : ∀ i s, f i (φ s) = mapS φ ψ (f i s)) : ∀ (k i : Nat) (s : S), foldN f i k (φ s) = mapS φ ψ (foldN f i k s)
  | 0, _, _ => rfl
  | k + 1, i, s => by
    unfold foldN
    rw [h]
    cases f i s with
    | inl s' => exact foldN_map h k (i + 1) s'
    | inr b => rfl
namespace St
def a2 (ks : Kns) (s : S2) : S2 := (s.1, s.2.1, ks ++ s.2.2)
def aM (ks : Kns) (s : MK) : MK := (s.1, ks ++ s.2)
theorem lvE_app {l : TCT cLawn} {t st : Int} {ks : Kns} (i : Nat) (s : S2) : lvE l t st i (a2 ks s) = mapS (a2 ks) id (lvE l t st i s) := by
  unfold lvE a2
  simp only
  cases getA s.2.1 i (dflt .b) with
  | true => rfl
  | false =>
    cases onB l (getM s.1 i).1 with
    | true => rfl
    | false => simp only [Bool.not_false, cond_true, List.append_assoc]; rfl
theorem mvF_app {bl : List (TCT cBall)} {l : TCT cLawn} {t st : Int} {n : Nat} {ks : Kns} (s : S2) : mvF bl l t st n (a2 ks s) = mapS (a2 ks) id (mvF bl l t st n s) := by
  unfold mvF
  show (match foldN (stE bl s.2.1) 0 n s.1 with
    | .inl ms => foldN (lvE l t st) 0 n (a2 ks (ms, s.2.1, s.2.2))
    | .inr e => .inr e) = _
  cases foldN (stE bl s.2.1) 0 n s.1 with
  | inl ms => exact foldN_map (fun i s => lvE_app i s) n 0 (ms, s.2.1, s.2.2)
  | inr e => rfl
theorem unE_map {S : Type} {φ : S → S} {ψ : Empty → Empty} (y : S ⊕ Empty) : unE (mapS φ ψ y) = φ (unE y) := by
  cases y with
  | inl s => rfl
  | inr e => exact nomatch e
theorem kpV_ap2 {W : List Int} {P : Prs} {t st : Int} {ks x : Kns} : kpV W P t st (ks ++ x) = ks ++ kpV W P t st x := by
  unfold kpV
  rw [foldN_map (φ := fun y : Kns => ks ++ y) (ψ := id) (fun i s => by unfold kpE mapS; rw [List.append_assoc])]
  exact unE_map _
theorem seF_ap2 {bl : List (TCT cBall)} {c : TCT cBnc} {t st w fl : Int} {n : Nat} {ks : Kns} (s : S2) : seF bl c t st w fl n (a2 ks s) = mapS (aM ks) id (seF bl c t st w fl n s) := by
  unfold seF
  show (bif (seS bl c w fl n s).2.2.1 != 0 then .inr (seS bl c w fl n s).2.2.1 else .inl (scV (seG bl w fl n s).1 (seS bl c w fl n s).1 s.1, kpV (seG bl w fl n s).1 (seS bl c w fl n s).2.1 t st (ks ++ s.2.2)) : MK ⊕ Int) = _
  rw [kpV_ap2]
  cases (seS bl c w fl n s).2.2.1 != 0 <;> rfl
theorem bpE_app {b : TCT cBall} {c : TCT cBnc} {ps : Dss} {os : List Bool} {w fl t st : Int} {i : Nat} {ks : Kns} (k : Nat) (s : MK) : bpE b c ps os w fl t st i k (aM ks s) = mapS (aM ks) (mapS (aM ks) id) (bpE b c ps os w fl t st i k s) := by
  unfold bpE aM
  simp only
  cases !rollB s.1 os i || flyB w fl i with
  | true => rfl
  | false =>
    cases (bmV b (getM s.1 i) (getD4 ps k) c).2.1 == 0 with
    | true => simp only [cond_false, cond_true, List.append_assoc]; rfl
    | false => cases (bmV b (getM s.1 i) (getD4 ps k) c).2.1 == 4 <;> rfl
theorem colE_map {φ : MK → MK} (y : MK ⊕ (MK ⊕ Int)) : colE (mapS φ (mapS φ id) y) = mapS φ id (colE y) := by
  cases y with
  | inl s => rfl
  | inr z => cases z <;> rfl
theorem buF_app {bl : List (TCT cBall)} {c : TCT cBnc} {ps : Dss} {t st w fl : Int} {n : Nat} {ks : Kns} (s : S2) : buF bl c ps t st w fl n (a2 ks s) = mapS (aM ks) id (buF bl c ps t st w fl n s) := by
  unfold buF
  exact foldN_map (φ := aM ks) (ψ := id) (fun i s => by unfold boE; rw [foldN_map (fun k s => bpE_app k s)]; exact colE_map _) n 0 (s.1, s.2.2)
theorem tkE_app {k : CT} {ks : Kns} (i : Nat) (s : S2) : tkE k i (a2 ks s) = mapS (a2 ks) id (tkE k i s) := by
  unfold tkE
  rw [mvF_app]
  cases mvF k.bl k.l k.t ((i + 1 : Nat) : Int) k.bl.length s with
  | inr e => rfl
  | inl s1 =>
    show ((match seF k.bl k.c k.t ((i + 1 : Nat) : Int) k.w k.fl k.bl.length (a2 ks s1) with
      | .inr e => .inr e
      | .inl s2 => match buF k.bl k.c k.ps k.t ((i + 1 : Nat) : Int) k.w k.fl k.bl.length (s2.1, s1.2.1, s2.2) with
        | .inr e => .inr e
        | .inl s3 => .inl (s3.1, s1.2.1, s3.2)) : S2 ⊕ Int) = _
    rw [seF_ap2]
    simp only
    cases seF k.bl k.c k.t ((i + 1 : Nat) : Int) k.w k.fl k.bl.length s1 with
    | inr e => rfl
    | inl s2 =>
      show ((match buF k.bl k.c k.ps k.t ((i + 1 : Nat) : Int) k.w k.fl k.bl.length (a2 ks (s2.1, s1.2.1, s2.2)) with
        | .inr e => .inr e
        | .inl s3 => .inl (s3.1, s1.2.1, s3.2)) : S2 ⊕ Int) = _
      rw [buF_app]
      simp only
      cases buF k.bl k.c k.ps k.t ((i + 1 : Nat) : Int) k.w k.fl k.bl.length (s2.1, s1.2.1, s2.2) <;> rfl
theorem tkF_app {k : CT} {ks : Kns} (s : S2) : tkF k (a2 ks s) = mapS (a2 ks) id (tkF k s) := by
  unfold tkF
  show ((bif k.t == 4000 then .inr 3 else match foldN (slE k.l s.2.1 k.w k.fl) 0 k.bl.length s.1 with
    | .inr e => .inr e
    | .inl ms => foldN (tkE k) 0 16 (a2 ks (ms, s.2.1, s.2.2))) : S2 ⊕ Int) = _
  cases k.t == 4000 with
  | true => rfl
  | false =>
    simp only [cond_false]
    cases foldN (slE k.l s.2.1 k.w k.fl) 0 k.bl.length s.1 with
    | inr e => rfl
    | inl ms => exact foldN_map (fun i s => tkE_app i s) 16 0 (ms, s.2.1, s.2.2)
def nxS (s : TCT cSt) (r : S2) : TCT cSt := (r.1, r.2.1, s.2.2.1, max 0 (W64 (s.2.2.2.1 - 1)), W64 (s.2.2.2.2.1 + 1), ())
theorem num_of {n a b c : Int} (h1 : 0 ≤ a ∧ a < n) (h2 : 0 ≤ b ∧ b ≤ 8) (h3 : 0 ≤ c ∧ c ≤ 4000) : (decide (a < 0) || (decide (a ≥ n) || (decide (b < 0) || (decide (b > 8) || (decide (c < 0) || decide (c > 4000)))))) = false := by
  simp only [Bool.or_eq_false_iff, decide_eq_false_iff_not]
  omega
theorem num_in {n a b c : Int} (h : (decide (a < 0) || (decide (a ≥ n) || (decide (b < 0) || (decide (b > 8) || (decide (c < 0) || decide (c > 4000)))))) = false) : (0 ≤ a ∧ a < n) ∧ (0 ≤ b ∧ b ≤ 8) ∧ (0 ≤ c ∧ c ≤ 4000) := by
  simp only [Bool.or_eq_false_iff, decide_eq_false_iff_not] at h
  omega
theorem nx_num {b c : Int} (h2 : 0 ≤ b ∧ b ≤ 8) (h3 : 0 ≤ c ∧ c ≤ 4000) (h4 : ¬ c = 4000) : (0 ≤ max 0 (W64 (b - 1)) ∧ max 0 (W64 (b - 1)) ≤ 8) ∧ (0 ≤ W64 (c + 1) ∧ W64 (c + 1) ≤ 4000) := by
  rw [W64_id (n := b - 1) (by omega) (by omega), W64_id (n := c + 1) (by omega) (by omega)]
  omega
theorem tick_sta {g : TCT cGr} {s : TCT cSt} {ks : Kns} {r : S2} (h : StaOk g s) (ht : tkF (ctS g s) (msT s, osT s, ks) = .inl r) : StaOk g (nxS s r) := by
  have a := sta_rq h
  have b := tkF_rq (k := ctS g s) (s := (msT s, osT s, ks)) ht a.1 a.2
  have hn : (0 ≤ s.2.2.1 ∧ s.2.2.1 < ((ballsG g).length : Int)) ∧ (0 ≤ s.2.2.2.1 ∧ s.2.2.2.1 ≤ 8) ∧ (0 ≤ s.2.2.2.2.1 ∧ s.2.2.2.2.1 ≤ 4000) := num_in h.num
  have h4 : ¬ s.2.2.2.2.1 = 4000 := by
    intro e
    unfold tkF at ht
    rw [show ((ctS g s).t == 4000) = true from beq_iff_eq.2 e] at ht
    cases ht
  have c := nx_num hn.2.1 hn.2.2 h4
  exact rq_sta h.gr h.n1 h.n8 b.1 b.2 (num_of hn.1 c.1 c.2)
def trS (g : TCT cGr) (b : Int) : Nat → TCT cSt → Kns → TrkP → (TCT cSt × Kns × TrkP) ⊕ Int
  | 0, s, ks, t => bif decide ((ks.length : Int) > 4096) then .inr 6 else .inl (s, ks, t ++ [atS s b])
  | n + 1, s, ks, t => bif decide ((ks.length : Int) > 4096) then .inr 6 else bif !stillB s then match tkF (ctS g s) (msT s, osT s, ks) with
    | .inl r => trS g b n (nxS s r) r.2.2 (t ++ [atS s b])
    | .inr e => .inr e
    else .inl (s, ks, t ++ [atS s b])
where atS (s : TCT cSt) (b : Int) : TCT cPt := ((getM (msT s) (Int.toNat b)).1.1, (getM (msT s) (Int.toNat b)).1.2.1, ())
def rnS (g : TCT cGr) : Nat → TCT cSt → Kns → (TCT cSt × Kns) ⊕ Int
  | 0, s, ks => bif decide ((ks.length : Int) > 4096) then .inr 6 else .inl (s, ks)
  | n + 1, s, ks => bif decide ((ks.length : Int) > 4096) then .inr 6 else bif !stillB s then match tkF (ctS g s) (msT s, osT s, ks) with
    | .inl r => rnS g n (nxS s r) r.2.2
    | .inr e => .inr e
    else .inl (s, ks)
def gZ (g : TCT cGr) (s : TCT cSt) (stp : Int) (ks : Kns) : GB := ((g.1.1, g.1.2.1, g.1.2.2.1, g.1.2.2.2.1, g.1.2.2.2.2.1, g.1.2.2.2.2.2.1.1.1, g.1.2.2.2.2.2.1.1.2.1, g.1.2.2.2.2.2.1.2.1, g.1.2.2.2.2.2.2.1, g.1.2.2.2.2.2.2.2.1, g.1.2.2.2.2.2.2.2.2.1, g.2.1, g.2.2.1.1, g.2.2.1.2.1, postsV g.1, s.1, s.2.1, s.2.2.1, s.2.2.2.1, s.2.2.2.2.1, stp, ((), (), ()), ()), (ks, ()), ())
def runS : (TCT cSt × Kns) ⊕ Int → TkR
  | .inl r => ((r.1.1, r.1.2.1, r.1.2.2.1, r.1.2.2.2.1, r.1.2.2.2.2.1, ()), r.2, 0, ())
  | .inr e => errT e
theorem plRn_rnS {g : TCT cGr} : ∀ (n : Nat) (s : TCT cSt) (stp : Int) (ks : Kns), runR (plRn n (gZ g s stp ks)) = runS (rnS g n s ks)
  | 0, s, stp, ks => by
    show runR (bif decide ((ks.length : Int) > 4096) then .inr 6 else .inl (gZ g s stp ks)) = runS (bif decide ((ks.length : Int) > 4096) then .inr 6 else .inl (s, ks))
    cases decide ((ks.length : Int) > 4096) <;> rfl
  | n + 1, s, stp, ks => by
    show runR (bif decide ((ks.length : Int) > 4096) then .inr 6 else bif !stillB (stG (gZ g s stp ks).1) then match tkF (ctS g s) (msT s, osT s, ks) with
      | .inl r => plRn n (gZ g (nxS s r) 17 r.2.2)
      | .inr e => .inr e
      else .inl (gZ g s stp ks)) = runS (bif decide ((ks.length : Int) > 4096) then .inr 6 else bif !stillB s then match tkF (ctS g s) (msT s, osT s, ks) with
      | .inl r => rnS g n (nxS s r) r.2.2
      | .inr e => .inr e
      else .inl (s, ks))
    cases decide ((ks.length : Int) > 4096) with
    | true => rfl
    | false =>
      show runR (bif !stillB s then match tkF (ctS g s) (msT s, osT s, ks) with
        | .inl r => plRn n (gZ g (nxS s r) 17 r.2.2)
        | .inr e => .inr e
        else .inl (gZ g s stp ks)) = runS (bif !stillB s then match tkF (ctS g s) (msT s, osT s, ks) with
        | .inl r => rnS g n (nxS s r) r.2.2
        | .inr e => .inr e
        else .inl (s, ks))
      cases stillB s with
      | true => rfl
      | false =>
        simp only [Bool.not_false, cond_true]
        cases tkF (ctS g s) (msT s, osT s, ks) with
        | inr e => rfl
        | inl r => exact plRn_rnS n (nxS s r) 17 r.2.2
theorem PlayV_eq {g : TCT cGr} {s : TCT cSt} {n : Int} : PlayV g s n = bif staE g s != 0 then errT (staE g s) else bif decide (n < 0) || decide (n > 4000) then errT 3 else runS (rnS g (Int.toNat n) s []) := by
  unfold PlayV
  rw [show runR (plRn (Int.toNat n) (gT g s)) = runS (rnS g (Int.toNat n) s []) from plRn_rnS (Int.toNat n) s 0 []]
def runTS : (TCT cSt × Kns × TrkP) ⊕ Int → TrR
  | .inl r => (r.2.2, 0, ())
  | .inr e => ([], e, ())
theorem plTr_trS {g : TCT cGr} {b : Int} : ∀ (n : Nat) (s : TCT cSt) (stp : Int) (ks : Kns) (t : TrkP), runT (plTr b n (gZ g s stp ks) t) = runTS (trS g b n s ks t)
  | 0, s, stp, ks, t => by
    show runT (bif decide ((ks.length : Int) > 4096) then .inr 6 else .inl (gZ g s stp ks, t ++ [trS.atS s b])) = runTS (bif decide ((ks.length : Int) > 4096) then .inr 6 else .inl (s, ks, t ++ [trS.atS s b]))
    cases decide ((ks.length : Int) > 4096) <;> rfl
  | n + 1, s, stp, ks, t => by
    show runT (bif decide ((ks.length : Int) > 4096) then .inr 6 else bif !stillB s then match tkF (ctS g s) (msT s, osT s, ks) with
      | .inl r => plTr b n (gZ g (nxS s r) 17 r.2.2) (t ++ [trS.atS s b])
      | .inr e => .inr e
      else .inl (gZ g s stp ks, t ++ [trS.atS s b])) = runTS (bif decide ((ks.length : Int) > 4096) then .inr 6 else bif !stillB s then match tkF (ctS g s) (msT s, osT s, ks) with
      | .inl r => trS g b n (nxS s r) r.2.2 (t ++ [trS.atS s b])
      | .inr e => .inr e
      else .inl (s, ks, t ++ [trS.atS s b]))
    cases decide ((ks.length : Int) > 4096) with
    | true => rfl
    | false =>
      simp only [cond_false]
      cases stillB s with
      | true => rfl
      | false =>
        simp only [Bool.not_false, cond_true]
        cases tkF (ctS g s) (msT s, osT s, ks) with
        | inr e => rfl
        | inl r => exact plTr_trS n (nxS s r) 17 r.2.2 (t ++ [trS.atS s b])
theorem TrackV_eq {g : TCT cGr} {s : TCT cSt} {b n : Int} : TrackV g s b n = bif staE g s != 0 then ([], staE g s, ()) else bif decide (b < 0) || (decide (b ≥ ((ballsG g).length : Int)) || (decide (n < 0) || decide (n > 4000))) then ([], 3, ()) else runTS (trS g b (Int.toNat n) s [] []) := by
  unfold TrackV
  rw [show runT (plTr b (Int.toNat n) (gT g s) []) = runTS (trS g b (Int.toNat n) s [] []) from plTr_trS (Int.toNat n) s 0 [] []]
end St
end V
end Go.Proofs.YtkiaifmbbnnliaaGreat
