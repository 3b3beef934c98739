import Derived.Test.YtkiaifmbbnnliaaGreatEn
namespace Go.Proofs.YtkiaifmbbnnliaaGreat
open Go.RowKit
namespace V
namespace St
theorem Ars {g : TCT cGr} {b : Int} {n : Nat} {s : TCT cSt} {ks : Kns} {t : Fh} (h : decide ((ks.length : Int) > 4096) = true) : trS g b n s ks t = .inr 6 := by
 cases n with
 | zero => rw [Wj, h]; rfl
 | succ n => rw [Wl, h]; rfl
theorem Art {k : CT} {s s' : S2} (hn : k.bl.length ≤ 8) (hp : k.ps.length ≤ 1000) (hm : s.1.length = k.bl.length) (ho : s.2.1.length = k.bl.length) (h : tkF k s = .inl s') : s'.2.2.length ≤ s.2.2.length + 16 * 8072 := by
 unfold tkF at h
 cases h0 : k.t == 4000 with
 | true => rw [h0] at h; cases h
 | false =>
  rw [h0] at h
  simp only [cond_false] at h
  cases h1 : Ag (slE k.l s.2.1 k.w k.fl) 0 k.bl.length s.1 with
  | inr e => rw [h1] at h; cases h
  | inl ms =>
   rw [h1] at h
   have a : ms.length = k.bl.length := B8 (n := k.bl.length) (Inv := fun _ (s : Af) => s.length = k.bl.length) (fun i s s' _ hl h => (Afz h).trans hl) k.bl.length 0 _ _ (by omega) hm h1
   have h2 : Ag (tkE k) 0 16 (ms, s.2.1, s.2.2) = .inl s' := h
   have b : Inv2 k.bl.length (s.2.2.length + 16 * 8072) 0 s' := B8 (n := 16) (Inv := fun i s2 => Inv2 k.bl.length (s.2.2.length + i * 8072) 0 s2) (fun i s s' hi hs h => U6 (m := 16) hn hp i s s' hi hs h) 16 0 (ms, s.2.1, s.2.2) s' (by omega) ⟨a, ho, by show s.2.2.length ≤ s.2.2.length + 0 * 8072 + 0; omega⟩ h2
   have := b.k
   omega
def Beg (q : QR4) : (TCT cSt × Kns × Fh) ⊕ Int → A1 A31
 | .inl r => Ard q r.1 r.2.1 r.2.2
 | .inr e => A0x e
theorem B3i {g : TCT cGr} {b : Int} {n : Nat} {z : SKTs kSo} (hs : (g.1.1.size : Int) ≤ As .i64) (hb : 0 ≤ b ∧ b < ((A3 g).length : Int)) (hn : n ≤ 4000) : ∀ (k i : Nat) (s : TCT cSt) (o : Kns) (t : Fh), StaOk g s → i + k = n → o.length ≤ 4096 → t.length + k ≤ 9000 →
  iter (Wh Kr) (k + 1) (Q4 (b, (n : Int), Ek g, z) s o (t ++ [trS.atS s b]) (i : Int)) = some (Beg (b, (n : Int), Ek g, z) (trS g b k s o t))
 | 0, i, s, o, t, h, hi, ho, ht => by
  refine Dh ?_
  show (M6 Kr (b, (n : Int), Ek g, z) s o (t ++ [trS.atS s b]) (i : Int)).run = _
  unfold M6
  rw [decide_eq_false (show ¬ (i : Int) < (n : Int) by omega), Wj, decide_eq_false (show ¬ (o.length : Int) > 4096 by omega)]
  rfl
 | k + 1, i, s, o, t, h, hi, ho, ht => by
  have hstep : (Wh Kr (Q4 (b, (n : Int), Ek g, z) s o (t ++ [trS.atS s b]) (i : Int))) = M6 Kr (b, (n : Int), Ek g, z) s o (t ++ [trS.atS s b]) (i : Int) := rfl
  rw [Wl, decide_eq_false (show ¬ (o.length : Int) > 4096 by omega)]
  cases hst : C0 s with
  | true =>
   refine Dh ?_
   rw [hstep]
   unfold M6
   rw [decide_eq_true (show (i : Int) < (n : Int) by omega), hst]
   rfl
  | false =>
   have hn8 := h.n8
   have hm := h.m
   have hos := h.o
   have hp := Ov (l := g.1)
   have hnum := Aqr h.num
   have hy : Kr (Ot (Ek g)) s = some (tkF (ctS g s) (msT s, osT s, [])) := by
    rw [← Bdw h]
    unfold Kr
    rw [show A2w (Ot (Ek g)) s = true by
     unfold A2w
     simp only [Bool.and_eq_true, decide_eq_true_eq]
     exact ⟨hs, hm, hos, hn8⟩]
    rfl
   simp only [Bool.not_false, cond_true, cond_false]
   rw [B86 (ks := o)]
   cases hf : tkF (ctS g s) (msT s, osT s, []) with
   | inr e =>
    rw [hf] at hy
    refine Dh ?_
    rw [hstep]
    unfold M6
    rw [decide_eq_true (show (i : Int) < (n : Int) by omega), hst, hy]
    simp only [Bool.not_false, cond_true]
    show (bif e != 0 then .leaf (.inr (A0x e)) else Are o [] _ : TR4).run = _
    rw [show (e != 0) = true from bne_iff_ne.2 (A2p hf)]
    rfl
   | inl r =>
    rw [hf] at hy
    have hl := Ag0 (k := ctS g s) hn8 (by show (G1 g.1).length ≤ 1000; omega) hm hos hf
    have hk := Art (k := ctS g s) hn8 (by show (G1 g.1).length ≤ 1000; omega) hm hos hf
    have hk2 : r.2.2.length ≤ 129152 := by simpa using hk
    have hl1 : r.1.length = (A3 g).length := hl.1
    have hnx : nxR s r = nxS s r := by
     unfold nxR nxS
     rw [B74 hnum.2.1.1 hnum.2.1.2]
    have hred : M6 Kr (b, (n : Int), Ek g, z) s o (t ++ [trS.atS s b]) (i : Int) = bif decide (((o ++ r.2.2).length : Int) > 4096) then .leaf (.inr (A0x 6)) else .leaf (.inl (Q4 (b, (n : Int), Ek g, z) (nxS s r) (o ++ r.2.2) (t ++ [trS.atS s b] ++ [trS.atS (nxS s r) b]) ((i + 1 : Nat) : Int))) := by
     unfold M6
     rw [decide_eq_true (show (i : Int) < (n : Int) by omega), hst, hy]
     simp only [Bool.not_false, cond_true]
     show Are o r.2.2 (B7t r.1 b (B7s (t ++ [trS.atS s b]) (Aj2 r.1 b) (bif decide (((o ++ r.2.2).length : Int) > 4096) then .leaf (.inr (A0x 6)) else .leaf (.inl (Q4 (b, (n : Int), Ek g, z) (nxR s r) (o ++ r.2.2) (t ++ [trS.atS s b] ++ [Aj2 r.1 b]) (W64 ((i : Int) + 1))))))) = _
     unfold Are B7t B7s
     rw [Gi (by omega) (by decide), cond_true, Ci (by rw [hl1]; exact hb), decide_eq_true (show Int.toNat b < r.1.length by omega), cond_true, Gi (by simp; omega) (by decide), cond_true, hnx, Bv (n := (i : Int) + 1) (by omega) (by omega)]
     rfl
    show _ = some (Beg _ (trS g b k (nxS s r) (o ++ r.2.2) (t ++ [trS.atS s b])))
    cases hmany : decide (((o ++ r.2.2).length : Int) > 4096) with
    | true =>
     rw [Ars hmany]
     refine Dh ?_
     rw [hstep, hred, hmany]
     rfl
    | false =>
     have hm2 := of_decide_eq_false hmany
     rw [Jq (g' := Q4 (b, (n : Int), Ek g, z) (nxS s r) (o ++ r.2.2) (t ++ [trS.atS s b] ++ [trS.atS (nxS s r) b]) ((i + 1 : Nat) : Int)) (by rw [hstep, hred, hmany]; rfl)]
     exact B3i hs hb hn k (i + 1) (nxS s r) (o ++ r.2.2) (t ++ [trS.atS s b]) (Arn h hf) (by omega) (by omega) (by rw [List.length_append, List.length_singleton]; omega)
abbrev RnR : Type := TCTs [cSt, .sl cKn, .sl cPt, cI]
abbrev TRn := Tree RnR
def rrR : (TCT cSt × Kns × Fh) ⊕ Int → RnR
 | .inl r => (Py r.1, r.2.1, r.2.2, 0, ())
 | .inr e => (zS, [], [], e, ())
def A32 (g : TCT cGr) (s : TCT cSt) (b n : Int) : Bool := decide ((g.1.1.size : Int) ≤ As .i64) && (Ee g s == 0 && (decide (0 ≤ b ∧ b < ((A3 g).length : Int)) && decide (0 ≤ n ∧ n ≤ 4000)))
def Aru (r : RnR) : RnR := (Py r.1, r.2.1, r.2.2.1, r.2.2.2.1, ())
abbrev B8a : PureT := B9 [cGr, cSt, cI, cI] [cSt, .sl cKn, .sl cPt, cI] (fun x => A32 x.1 x.2.1 x.2.2.1 x.2.2.2.1) (fun x => Aru (rrR (trS x.1 x.2.2.1 (Int.toNat x.2.2.2.1) x.2.1 [] [])))
def B3j (y : Option (A1 A31)) : TRn := bif isE .ret y then .leaf (Py (B7 .ret y).2.1, (B7 .ret y).1.2.1, (B7 .ret y).1.2.2.1, (B7 .ret y).1.2.2.2.1, ()) else bif isE (.exit 0) y then .leaf (Py (B7 (.exit 0) y).2.1, (B7 (.exit 0) y).1.2.2.1, (B7 (.exit 0) y).1.2.2.2.1, 0, ()) else .fail
def Az6 (Y : YG) (g : TCT cGr) (s : TCT cSt) (b n : Int) : TRn := acT (msT s) 48 (acT (osT s) 1 (inN ([] ++ s.1 : Af).length b (bif decide (Int.toNat b < ([] ++ s.1 : Af).length) then B3j (iter (Wh Y) (Int.toNat n + 1) (Q4 (b, n, Ek g, ([], [], 0, 0, 0, ())) (([] ++ s.1), ([] ++ s.2.1), s.2.2.1, s.2.2.2.1, s.2.2.2.2.1, ()) [] [Aj2 ([] ++ s.1) b] 0)) else .fail)))
noncomputable def Beh (Y : YG) : Ctx := Kj Tryz.prog Ay9 [(86, Tryz.f86), (20, Tryz.f20)] [((86, 5), A9 Zg A31 (Bu [.ret, .exit 0] (Wh Y) Arf))] []
theorem Az7 : CtxOk (Beh Kr) := D8 Ab B78 (fns_cons is_bM (fns_cons is_by A2)) (Ap (Fm (ds := [Arb]) (by kernel_rfl) ⟨Ec (k := 5) (by kernel_rfl) rfl Bib, trivial⟩) (Ap (Av (by kernel_rfl)) Ez)) (fun p hp => nomatch hp)
theorem Az8 (Y : YG) (x : TCTs [cGr, cSt, cI, cI]) : C4 (Beh Y) 8 (.fn 86) (Ce [cGr, cSt, cI, cI] x) Be 0 (Ft Tryz.prog [cSt, .sl cKn, .sl cPt, cI]) = Az6 Y x.1 x.2.1 x.2.2.1 x.2.2.2.1 := by kernel_rfl
theorem Arv {g : TCT cGr} {s : TCT cSt} {b n : Int} (h : A32 g s b n = true) : (g.1.1.size : Int) ≤ As .i64 ∧ Ee g s = 0 ∧ (0 ≤ b ∧ b < ((A3 g).length : Int)) ∧ (0 ≤ n ∧ n ≤ 4000) := by
 unfold A32 at h
 simp only [Bool.and_eq_true, decide_eq_true_eq, beq_iff_eq] at h
 exact h
theorem Az9 {g : TCT cGr} {s : TCT cSt} {b n : Int} (ho : A32 g s b n = true) : (Az6 Kr g s b n).sat (fun y => y = Aru (rrR (trS g b (Int.toNat n) s [] []))) := by
 obtain ⟨hs, h0, hb, hn⟩ := Arv ho
 have h := Ro h0
 have hn8 := h.n8
 have hm := h.m
 have hos := h.o
 obtain ⟨k, rfl⟩ := Int.eq_ofNat_of_zero_le hn.1
 unfold Az6
 rw [Hz (by omega) (by decide), Hz (by omega) (by decide)]
 have hms : ([] ++ s.1 : Af).length = (A3 g).length := by rw [List.nil_append]; exact hm
 rw [Ci (by rw [hms]; exact hb), decide_eq_true (show Int.toNat b < ([] ++ s.1 : Af).length by rw [hms]; omega), cond_true]
 have a := B3i (n := k) (z := ([], [], 0, 0, 0, ())) hs hb (by omega) k 0 s [] [] h (by omega) (by simp) (by simp; omega)
 have e : Q4 (b, (k : Int), Ek g, ([], [], 0, 0, 0, ())) (([] ++ s.1), ([] ++ s.2.1), s.2.2.1, s.2.2.2.1, s.2.2.2.2.1, ()) [] [Aj2 ([] ++ s.1) b] 0 = Q4 (b, (k : Int), Ek g, ([], [], 0, 0, 0, ())) s [] ([] ++ [trS.atS s b]) ((0 : Nat) : Int) := rfl
 rw [e, show Int.toNat (k : Int) = k from rfl, a]
 unfold B3j
 cases trS g b k s [] [] with
 | inl r => exact rfl
 | inr x => exact rfl
theorem B8b : A7 Tryz.prog 86 B8a := B6 Az7 8 (fun x => Az6 Kr x.1 x.2.1 x.2.2.1 x.2.2.2.1) (Az8 Kr) fun _ hok _ => Az9 hok
end St
end V
end Go.Proofs.YtkiaifmbbnnliaaGreat
