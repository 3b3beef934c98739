import Derived.Test.YtkiaifmbbnnliaaGreatCA
namespace Go.Proofs.YtkiaifmbbnnliaaGreat
open Go.RowKit
namespace V
namespace St
theorem is_bw : FnIs Tryz.prog (27, Tryz.f27) := ⟨Tryz.func27, by kernel_rfl, by kernel_rfl⟩
theorem is_bx : FnIs Tryz.prog (69, Tryz.f69) := ⟨Tryz.func69, by kernel_rfl, by kernel_rfl⟩
theorem is_by : FnIs Tryz.prog (20, Tryz.f20) := ⟨Tryz.func20, by kernel_rfl, by kernel_rfl⟩
theorem is_bz : FnIs Tryz.prog (63, Tryz.f63) := ⟨Tryz.func63, by kernel_rfl, by kernel_rfl⟩
theorem is_bA : FnIs Tryz.prog (119, Tryz.f119) := ⟨Tryz.func119, by kernel_rfl, by kernel_rfl⟩
abbrev Ab8 : List (Nat × PureT) := (74, A0c) :: (71, Pw) :: (72, A3w) :: (126, A3s) :: (127, A3u) :: (120, Q7) :: (125, U3) :: B4z
theorem Air : By Tryz.prog Ab8 := A0 is_aW.plain B20 (A0 is_aT.plain Aic (A0 is_rSlow.plain B0j (A0 is_rStep.plain B0h (A0 is_rBump.plain B0i (A0 is_rSettle.plain Ajc (A0 is_aP.plain Amy Bbd))))))
noncomputable def Bhh : Ctx := ctx Tryz.prog Ab8 [(119, Tryz.f119)]
theorem J9 : CtxOk Bhh := Ad Ab Air (fns_cons is_bA A2)
abbrev bsR : List BK := [(4, 34, kGr), (5, 38, kSo), (6, 38, kSo)]
abbrev kKn : SK := .o 57 cKn
noncomputable def Afo : Code := (A8 (bodyOf Tryz.f69)).getD 1 .skip
noncomputable def Afp : Code := (A8 (bodyOf Tryz.f69)).getD 2 .skip
noncomputable def A6e : Code := (A8 (bodyOf Tryz.f69)).getD 3 .skip
noncomputable def A6f : Code := (A8 (bodyOf Tryz.f69)).getD 4 .skip
def W1 (nx : Nat) : Lay := { keys := [2, 3, 4, 8, 10, 11], ks := [.p 4 0 0 0, .p 5 0 0 0, .p 6 0 0 0, .d (.sl Al), kKn, .d cI], bs := bsR, n := 233, nx := nx, marks := [] }
def Kq (i nx : Nat) : Lay := { keys := [2, 3, 4, 8, 10, 11, i], ks := [.p 4 0 0 0, .p 5 0 0 0, .p 6 0 0 0, .d (.sl Al), kKn, .d cI, .d cI], bs := bsR, n := 233, nx := nx, marks := [] }
def W3 : Lay := { keys := [4, 5, 6], ks := [.p 6 0 0 0, kKn, .d cI], bs := [(6, 38, kSo)], n := 233, nx := 12000, marks := [] }
def E_k (nx : Nat) : XE → Lay := fun e => match e with | .ret => W3 | _ => W1 nx
structure RT where
 g : SKTs kGr
 z : SKTs kSt
 w : Int
 fl : Int
 t : Int
 ps : Dss
 st : Int
def bR (c : RT) (s : S2) : SKTs kGr × SKTs kSo × SKTs kSt × Unit := (c.g, (s.1, s.2.1, c.w, c.fl, c.t, ()), c.z, ())
def M2 (i nx : Nat) (c : RT) (j : Int) (s : S2) : (Kq i nx).T := (((), (), (), c.ps, s.2.2, c.st, j, ()), bR c s)
def Z9 (x nx : Nat) (c : RT) (s : S2) : A1 (E_k nx) := ⟨.exit x, (((), (), (), c.ps, s.2.2, c.st, ()), bR c s)⟩
def B6k (nx : Nat) (e : Int) : A1 (E_k nx) := ⟨.ret, (((), [], e, ()), (r0, ()))⟩
def rc (i nx : Nat) (g : (Kq i nx).T) : RT := ⟨g.2.1, g.2.2.2.1, g.2.2.1.2.2.1, g.2.2.1.2.2.2.1, g.2.2.1.2.2.2.2.1, g.1.2.2.2.1, g.1.2.2.2.2.2.1⟩
def rs (i nx : Nat) (g : (Kq i nx).T) : S2 := (g.2.2.1.1, g.2.2.1.2.1, g.1.2.2.2.2.1)
abbrev TK (i nx : Nat) := Tree ((Kq i nx).T ⊕ A1 (E_k nx))
theorem Ab9 {i nx : Nat} (h : nx ≤ 12000) (e : XE) : (Kq i nx).nx ≤ (E_k nx e).nx := by cases e <;> first | exact Nat.le_refl _ | exact h
def nB (c : RT) : Nat := (blX c.g).length
def I0 (m : TCT Aj) : Bool := m.2.1.1 == 0 && (m.2.1.2.1 == 0 && true)
def W4 (c : RT) (j : Int) (s : S2) : TK 12 5000 := bif decide (j < (nB c : Int)) then inO s.2.1.length j (bif At s.2.1 (Int.toNat j) (Aq .b) then .leaf (.inl (M2 12 5000 c (W64 (j + 1)) s)) else inO s.1.length j (
 bif I0 (Ai s.1 (Int.toNat j)) then .leaf (.inl (M2 12 5000 c (W64 (j + 1)) s)) else inN (nB c) j (inO s.1.length j (
 bif (Pz (D9 (blX c.g) (Int.toNat j)) (Ai s.1 (Int.toNat j))).2.1 != 0 then .leaf (.inr (B6k 5000 (Pz (D9 (blX c.g) (Int.toNat j)) (Ai s.1 (Int.toNat j))).2.1)) else
 inO s.1.length j (.leaf (.inl (M2 12 5000 c (W64 (j + 1)) (B5 s.1 (Int.toNat j) (Pz (D9 (blX c.g) (Int.toNat j)) (Ai s.1 (Int.toNat j))).1, s.2.1, s.2.2)))))))) else .leaf (.inr (Z9 2 5000 c s))
def A0k (g : (Kq 12 5000).T) : TK 12 5000 := W4 (rc 12 5000 g) g.1.2.2.2.2.2.2.1 (rs 12 5000 g)
def Tu (i nx : Nat) (g : (Kq i nx).T) : Nat := (blX g.2.1).length + 1
theorem Bhi : Ae Tryz.prog 69 Afo (A9 (Kq 12 5000) (E_k 5000) (Bu [.ret, .exit 2] A0k (Tu 12 5000))) := Aw J9 7 _ _ _ (Ab9 (by decide)) [.ret, .exit 2] A0k (Tu 12 5000) (fun g => by kernel_rfl)
def W5 (c : RT) (j : Int) (s : S2) : TK 15 6000 := bif decide (j < (nB c : Int)) then inO s.2.1.length j (bif !At s.2.1 (Int.toNat j) (Aq .b) then inO s.1.length j (
 bif !onB (lwG c.g) (Ai s.1 (Int.toNat j)).1 then inO s.2.1.length j (inO s.1.length j (Tt s.2.2 (kn c.t c.st 2 j 0) fun ks => .leaf (.inl (M2 15 6000 c (W64 (j + 1)) (B5 s.1 (Int.toNat j) (B53 (Ai s.1 (Int.toNat j))), B5 s.2.1 (Int.toNat j) true, ks)))))
 else .leaf (.inl (M2 15 6000 c (W64 (j + 1)) s))) else .leaf (.inl (M2 15 6000 c (W64 (j + 1)) s))) else .leaf (.inr (Z9 4 6000 c s))
def A0l (g : (Kq 15 6000).T) : TK 15 6000 := W5 (rc 15 6000 g) g.1.2.2.2.2.2.2.1 (rs 15 6000 g)
theorem Bhj : Ae Tryz.prog 69 Afp (A9 (Kq 15 6000) (E_k 6000) (Bu [.exit 4] A0l (Tu 15 6000))) := Aw J9 7 _ _ _ (Ab9 (by decide)) [.exit 4] A0l (Tu 15 6000) (fun g => by kernel_rfl)
def A6g : Lay := { keys := [2, 3, 4, 8, 10, 11, 19, 20], ks := [.p 4 0 0 0, .p 5 0 0 0, .p 6 0 0 0, .d (.sl Al), kKn, .d cI, .d cI, .d cI], bs := bsR, n := 233, nx := 10000, marks := [] }
def Bct : Lay := { keys := [2, 3, 4, 8, 10, 11, 19], ks := [.p 4 0 0 0, .p 5 0 0 0, .p 6 0 0 0, .d (.sl Al), kKn, .d cI, .d cI], bs := bsR, n := 233, nx := 10000, marks := [] }
def A6h : XE → Lay := fun e => match e with | .ret => W3 | _ => Bct
theorem Axw (e : XE) : A6g.nx ≤ (A6h e).nx := by cases e <;> first | exact Nat.le_refl _ | exact (by decide : (10000 : Nat) ≤ 12000)
def Sy (c : RT) (i k : Int) (s : S2) : A6g.T := (((), (), (), c.ps, s.2.2, c.st, i, k, ()), bR c s)
def B2f (c : RT) (i : Int) (s : S2) : A1 A6h := ⟨.exit 8, (((), (), (), c.ps, s.2.2, c.st, i, ()), bR c s)⟩
def B2g (e : Int) : A1 A6h := ⟨.ret, (((), [], e, ()), (r0, ()))⟩
abbrev TT4 := Tree (A6g.T ⊕ A1 A6h)
def Fg (g : SKTs kGr) : TCT D5 := (g.2.2.2.2.2.2.2.2.2.2.2.2.1, g.2.2.2.2.2.2.2.2.2.2.2.2.2.1, ())
def Apn (c : RT) (i k : Int) (s : S2) (r : TCTs [Aj, cI]) : TT4 :=
 bif r.2.1 == 4 then .leaf (.inr (B2g r.2.1)) else bif r.2.1 == 0 then inO s.1.length i (Tt s.2.2 (kn c.t c.st 1 i k) fun ks => .leaf (.inl (Sy c i (W64 (k + 1)) (B5 s.1 (Int.toNat i) r.1, s.2.1, ks)))) else .leaf (.inl (Sy c i (W64 (k + 1)) s))
def A2t (c : RT) (i k : Int) (s : S2) : TT4 := inO s.1.length i (bif I0 (Ai s.1 (Int.toNat i)) then .leaf (.inl (Sy c i (W64 (k + 1)) s)) else
 inN (nB c) i (inO s.1.length i (inN c.ps.length k (Apn c i k s (bmV (D9 (blX c.g) (Int.toNat i)) (Ai s.1 (Int.toNat i)) (C9 c.ps (Int.toNat k)) (Fg c.g))))))
def W6 (c : RT) (i k : Int) (s : S2) : TT4 := bif decide (k < (c.ps.length : Int)) then inO s.2.1.length i (bif !At s.2.1 (Int.toNat i) (Aq .b) then bif i == c.w then bif !!decide (c.fl > 0) then .leaf (.inl (Sy c i (W64 (k + 1)) s)) else A2t c i k s else A2t c i k s
 else .leaf (.inl (Sy c i (W64 (k + 1)) s))) else .leaf (.inr (B2f c i s))
def rc4 (g : A6g.T) : RT := ⟨g.2.1, g.2.2.2.1, g.2.2.1.2.2.1, g.2.2.1.2.2.2.1, g.2.2.1.2.2.2.2.1, g.1.2.2.2.1, g.1.2.2.2.2.2.1⟩
def rs4 (g : A6g.T) : S2 := (g.2.2.1.1, g.2.2.1.2.1, g.1.2.2.2.2.1)
def Apo (g : A6g.T) : TT4 := W6 (rc4 g) g.1.2.2.2.2.2.2.1 g.1.2.2.2.2.2.2.2.1 (rs4 g)
def B2h (g : A6g.T) : Nat := (g.1.2.2.2.1 : Dss).length + 1
def B2i : St → Tree (XE × St) := A9 A6g A6h (Bu [.ret, .exit 8] Apo B2h)
theorem Bhk : Ae Tryz.prog 69 A6f B2i := Aw J9 7 _ _ _ Axw [.ret, .exit 8] Apo B2h (fun g => by kernel_rfl)
def Bcu (c : RT) (i : Int) (s : S2) : Option (A1 A6h) := iter Apo (c.ps.length + 1) (Sy c i 0 s)
def Bcv (r : Bct.T) : (Kq 19 9000).T := (((), (), (), r.1.2.2.2.1, r.1.2.2.2.2.1, r.1.2.2.2.2.2.1, W64 (r.1.2.2.2.2.2.2.1 + 1), ()), r.2)
def Bcw (r : W3.T) : A1 (E_k 9000) := ⟨.ret, r⟩
def Bcx (y : Option (A1 A6h)) : TK 19 9000 := bif isE .ret y then .leaf (.inr (Bcw (B7 .ret y))) else bif isE (.exit 8) y then .leaf (.inl (Bcv (B7 (.exit 8) y))) else .fail
def W7 (c : RT) (i : Int) (s : S2) : TK 19 9000 := bif decide (i < (nB c : Int)) then Bcx (Bcu c i s) else .leaf (.inr (Z9 6 9000 c s))
def A0m (g : (Kq 19 9000).T) : TK 19 9000 := W7 (rc 19 9000 g) g.1.2.2.2.2.2.2.1 (rs 19 9000 g)
def Bcy : Ib := fun k => bif Nat.beq k 35 then some B2i else none
theorem App : A8 A6e = [A6f] := by kernel_rfl
theorem Apq : keyOf A6f = 35 := by kernel_rfl
theorem Bhl : Ae Tryz.prog 69 A6e (A9 (Kq 19 9000) (E_k 9000) (Bu [.ret, .exit 6] A0m (Tu 19 9000))) := N4 J9 7 _ Bcy (fun d hd f hf => by
  rw [App, List.mem_singleton] at hd
  subst hd
  rw [Apq] at hf
  cases hf
  exact Bhk) _ _ (Ab9 (by decide)) [.ret, .exit 6] A0m (Tu 19 9000) (fun g => by kernel_rfl)
theorem Aba (m : TCT Aj) : A2e m = !I0 m := rfl
def up2 (os : List Bool) (ks : Kns) : Af ⊕ Int → S2 ⊕ Int
 | .inl ms => .inl (ms, os, ks)
 | .inr e => .inr e
def upM (os : List Bool) : MK ⊕ Int → S2 ⊕ Int
 | .inl s => .inl (s.1, os, s.2)
 | .inr e => .inr e
def A6i (bl : List (TCT A4)) (i : Nat) (s : S2) : S2 ⊕ Int := up2 s.2.1 s.2.2 (stE bl s.2.1 i s.1)
theorem A0n {bl : List (TCT A4)} {os : List Bool} {ks : Kns} : ∀ (k i : Nat) (ms : Af), Ag (A6i bl) i k (ms, os, ks) = up2 os ks (Ag (stE bl os) i k ms)
 | 0, _, _ => rfl
 | k + 1, i, ms => by
  have e : A6i bl i (ms, os, ks) = up2 os ks (stE bl os i ms) := rfl
  unfold Ag
  rw [e]
  cases stE bl os i ms with
  | inl ms' => exact A0n k (i + 1) ms'
  | inr e => rfl
def A2u (c : RT) : S2 ⊕ Int → A1 (E_k 5000)
 | .inl s => Z9 2 5000 c s
 | .inr e => B6k 5000 e
theorem B6l {bl : List (TCT A4)} {n k : Nat} (i : Nat) (s s' : S2) (hi : i < n) (hl : Inv2 n k 0 s) (h : A6i bl i s = .inl s') : Inv2 n k 0 s' := by
 unfold A6i at h
 cases h1 : stE bl s.2.1 i s.1 with
 | inr e => rw [h1] at h; cases h
 | inl ms =>
  rw [h1] at h
  cases h
  exact ⟨Vo (n := n) i s.1 ms hi hl.m h1, hl.o, hl.k⟩
theorem Bcz {c : RT} {s : S2} {k : Nat} (hn8 : nB c ≤ 8) (hs : Inv2 (nB c) k 0 s) : iter A0k (nB c + 1) (M2 12 5000 c 0 s) = some (A2u c (Ag (A6i (blX c.g)) 0 (nB c) s)) := by
 have hn : (nB c : Int) ≤ As .i64 := by show (nB c : Int) ≤ 9223372036854775807; omega
 refine Ef (nB c) (fun i s => M2 12 5000 c i s) (A6i (blX c.g)) (A2u c) (fun _ s => Inv2 (nB c) k 0 s) (fun i s hi hl => ?_) B6l (fun s hl => ?_) (nB c) 0 s (by omega) hs
 ·show (W4 c i s).run = _
  have h1 := hl.m
  have h2 := hl.o
  unfold W4 A6i stE C1
  rw [decide_eq_true (show (i : Int) < (nB c : Int) by omega), Bp (by omega), Bp (by omega), Ci (by omega), Bp (by omega), Bp (by omega), show Int.toNat (i : Int) = i from rfl, Bs hi hn]
  show Tree.run (bif At s.2.1 i (Aq .b) then _ else bif I0 (Ai s.1 i) then _ else _ : TK 12 5000) = some (Vi (fun i s => M2 12 5000 c (i : Nat) s) (A2u c) i (up2 s.2.1 s.2.2 (bif !(!At s.2.1 i (Aq .b) && !I0 (Ai s.1 i)) then .inl s.1 else _)))
  cases At s.2.1 i (Aq .b) with
  | true => rfl
  | false =>
   cases I0 (Ai s.1 i) with
   | true => rfl
   | false =>
    simp only [Bool.not_false, Bool.and_self, Bool.not_true, cond_false]
    cases (Pz (D9 (blX c.g) i) (Ai s.1 i)).2.1 != 0 <;> rfl
 ·show (W4 c (nB c) s).run = _
  unfold W4
  rw [decide_eq_false (show ¬ (nB c : Int) < (nB c : Int) by omega)]
  rfl
def Abb (c : RT) : S2 ⊕ Int → A1 (E_k 6000)
 | .inl s => Z9 4 6000 c s
 | .inr _ => Z9 4 6000 c ([], [], [])
theorem Bd0 {c : RT} {s : S2} {k : Nat} (hn8 : nB c ≤ 8) (hk : k ≤ 900000) (hs : Inv2 (nB c) k 0 s) : iter A0l (nB c + 1) (M2 15 6000 c 0 s) = some (Abb c (Ag (lvE (lwG c.g) c.t c.st) 0 (nB c) s)) := by
 have hn : (nB c : Int) ≤ As .i64 := by show (nB c : Int) ≤ 9223372036854775807; omega
 refine Ef (nB c) (fun i s => M2 15 6000 c i s) (lvE (lwG c.g) c.t c.st) (Abb c) (Inv2 (nB c) k) (fun i s hi hl => ?_) A2i (fun s hl => ?_) (nB c) 0 s (by omega) hs
 ·show (W5 c i s).run = _
  have h1 := hl.m
  have h2 := hl.o
  have h3 := hl.k
  unfold W5 lvE Tt
  rw [decide_eq_true (show (i : Int) < (nB c : Int) by omega), Bp (by omega), Bp (by omega), Bp (by omega), Bp (by omega), show Int.toNat (i : Int) = i from rfl, Bs hi hn, Gi (by simp; omega) (by decide)]
  cases At s.2.1 i (Aq .b) with
  | true => rfl
  | false =>
   simp only [Bool.not_false, cond_true]
   cases onB (lwG c.g) (Ai s.1 i).1 <;> rfl
 ·show (W5 c (nB c) s).run = _
  unfold W5
  rw [decide_eq_false (show ¬ (nB c : Int) < (nB c : Int) by omega)]
  rfl
def bcE (b : TCT A4) (c : TCT D5) (ps : Dss) (w fl t st : Int) (i : Nat) (k : Nat) (s : S2) : S2 ⊕ Int :=
 bif !C1 s.1 s.2.1 i || El w fl i then .inl s else
 bif (bmV b (Ai s.1 i) (C9 ps k) c).2.1 == 4 then .inr (bmV b (Ai s.1 i) (C9 ps k) c).2.1 else
 bif (bmV b (Ai s.1 i) (C9 ps k) c).2.1 == 0 then .inl (B5 s.1 i (bmV b (Ai s.1 i) (C9 ps k) c).1, s.2.1, s.2.2 ++ [kn t st 1 i k]) else .inl s
def Abc (c : RT) (i : Int) : S2 ⊕ Int → A1 A6h
 | .inl s => B2f c i s
 | .inr e => B2g e
theorem Apr {b : TCT A4} {c : TCT D5} {ps : Dss} {w fl t st : Int} {i n k0 m : Nat} (k : Nat) (s s' : S2) (_ : k < m) (hl : Inv2 n k0 k s) (h : bcE b c ps w fl t st i k s = .inl s') : Inv2 n k0 (k + 1) s' := by
 unfold bcE at h
 have hk := hl.k
 cases h1 : !C1 s.1 s.2.1 i || El w fl i with
 | true => rw [h1] at h; cases h; exact ⟨hl.m, hl.o, by omega⟩
 | false =>
  rw [h1] at h
  cases h3 : (bmV b (Ai s.1 i) (C9 ps k) c).2.1 == 4 with
  | true => rw [h3] at h; cases h
  | false =>
   rw [h3] at h
   cases h2 : (bmV b (Ai s.1 i) (C9 ps k) c).2.1 == 0 with
   | true => rw [h2] at h; cases h; exact ⟨by rw [Br]; exact hl.m, hl.o, by simp; omega⟩
   | false => rw [h2] at h; cases h; exact ⟨hl.m, hl.o, by omega⟩
theorem Bd1 {c : RT} {s : S2} {i k0 : Nat} (hi : i < nB c) (hs : Inv2 (nB c) k0 0 s) (hk0 : k0 ≤ 990000) (hps : c.ps.length ≤ 1000) :
  Bcu c i s = some (Abc c i (Ag (bcE (D9 (blX c.g) i) (Fg c.g) c.ps c.w c.fl c.t c.st i) 0 c.ps.length s)) := by
 have hn : (c.ps.length : Int) ≤ As .i64 := by show (c.ps.length : Int) ≤ 9223372036854775807; omega
 refine Ef c.ps.length (fun k s => Sy c i k s) (bcE (D9 (blX c.g) i) (Fg c.g) c.ps c.w c.fl c.t c.st i) (Abc c i) (Inv2 (nB c) k0) (fun k s hk hl => ?_) Apr (fun s hl => ?_) c.ps.length 0 s (by omega) hs
 ·show (W6 c i k s).run = _
  have h1 := hl.m
  have h2 := hl.o
  have h3 := hl.k
  have hcnt : (A2t c i k s).run = some (Vi (fun k s => Sy c i (k : Nat) s) (Abc c i) k (bif I0 (Ai s.1 i) then .inl s else
    bif (bmV (D9 (blX c.g) i) (Ai s.1 i) (C9 c.ps k) (Fg c.g)).2.1 == 4 then .inr (bmV (D9 (blX c.g) i) (Ai s.1 i) (C9 c.ps k) (Fg c.g)).2.1 else
    bif (bmV (D9 (blX c.g) i) (Ai s.1 i) (C9 c.ps k) (Fg c.g)).2.1 == 0 then .inl (B5 s.1 i (bmV (D9 (blX c.g) i) (Ai s.1 i) (C9 c.ps k) (Fg c.g)).1, s.2.1, s.2.2 ++ [kn c.t c.st 1 i k]) else .inl s)) := by
   unfold A2t Apn Tt
   rw [Bp (by omega), Ci (by omega), Bp (by omega), Ci (by omega), Bp (by omega), show Int.toNat (i : Int) = i from rfl, show Int.toNat (k : Int) = k from rfl, Bs hk hn, Gi (by simp; omega) (by decide)]
   cases I0 (Ai s.1 i) with
   | true => rfl
   | false =>
    simp only [cond_false]
    cases (bmV (D9 (blX c.g) i) (Ai s.1 i) (C9 c.ps k) (Fg c.g)).2.1 == 4 with
    | true => rfl
    | false =>
     simp only [cond_false]
     cases (bmV (D9 (blX c.g) i) (Ai s.1 i) (C9 c.ps k) (Fg c.g)).2.1 == 0 <;> rfl
  unfold W6 bcE C1 El
  rw [decide_eq_true (show (k : Int) < (c.ps.length : Int) by omega), Bp (by omega), show Int.toNat (i : Int) = i from rfl, Bs hk hn, cond_true, Aba]
  cases At s.2.1 i (Aq .b) with
  | true => rfl
  | false =>
   simp only [Bool.not_false, Bool.true_and, cond_true, Bool.not_not]
   cases hw : (i : Int) == c.w with
   | false =>
    simp only [cond_false, Bool.false_and, Bool.or_false]
    rw [hcnt]; rfl
   | true =>
    simp only [cond_true, Bool.true_and]
    cases decide (c.fl > 0) with
    | true => rw [Bool.or_true]; rfl
    | false =>
     simp only [Bool.or_false, cond_false]
     rw [hcnt]; rfl
 ·show (W6 c i c.ps.length s).run = _
  unfold W6
  rw [decide_eq_false (show ¬ (c.ps.length : Int) < (c.ps.length : Int) by omega)]
  rfl
theorem A6j {b : TCT A4} {c : TCT D5} {ps : Dss} {w fl t st : Int} {i : Nat} {s : S2} (h : (!C1 s.1 s.2.1 i || El w fl i) = true) : ∀ (j k : Nat), Ag (bcE b c ps w fl t st i) k j s = .inl s
 | 0, _ => rfl
 | j + 1, k => by
  unfold Ag
  rw [show bcE b c ps w fl t st i k s = .inl s by unfold bcE; rw [h]; rfl]
  exact A6j h j (k + 1)
theorem Aps {b : TCT A4} {c : TCT D5} {ps : Dss} {os : List Bool} {w fl t st : Int} {i : Nat} : ∀ (j k : Nat) (s : MK), Ag (bcE b c ps w fl t st i) k j (s.1, os, s.2) = upM os (A65 (Ag (bpE b c ps os w fl t st i) k j s))
 | 0, _, _ => rfl
 | j + 1, k, s => by
  cases h1 : !C1 s.1 os i || El w fl i with
  | true =>
   rw [A6j (s := (s.1, os, s.2)) h1]
   unfold Ag
   rw [show bpE b c ps os w fl t st i k s = .inr (.inl s) by unfold bpE; rw [h1]; rfl]
   rfl
  | false =>
   unfold Ag
   cases h2 : (bmV b (Ai s.1 i) (C9 ps k) c).2.1 == 0 with
   | true =>
    have h4 : ((bmV b (Ai s.1 i) (C9 ps k) c).2.1 == 4) = false := by rw [beq_iff_eq.1 h2]; rfl
    rw [show bpE b c ps os w fl t st i k s = .inl (B5 s.1 i (bmV b (Ai s.1 i) (C9 ps k) c).1, s.2 ++ [kn t st 1 i k]) by unfold bpE; rw [h1, h2]; rfl]
    rw [show bcE b c ps w fl t st i k (s.1, os, s.2) = .inl (B5 s.1 i (bmV b (Ai s.1 i) (C9 ps k) c).1, os, s.2 ++ [kn t st 1 i k]) by unfold bcE; simp only; rw [h1, h4, h2]; rfl]
    exact Aps j (k + 1) (B5 s.1 i (bmV b (Ai s.1 i) (C9 ps k) c).1, s.2 ++ [kn t st 1 i k])
   | false =>
    cases h4 : (bmV b (Ai s.1 i) (C9 ps k) c).2.1 == 4 with
    | true =>
     rw [show bpE b c ps os w fl t st i k s = .inr (.inr (bmV b (Ai s.1 i) (C9 ps k) c).2.1) by unfold bpE; rw [h1, h2, h4]; rfl]
     rw [show bcE b c ps w fl t st i k (s.1, os, s.2) = .inr (bmV b (Ai s.1 i) (C9 ps k) c).2.1 by unfold bcE; simp only; rw [h1, h4]; rfl]
     rfl
    | false =>
     rw [show bpE b c ps os w fl t st i k s = .inl s by unfold bpE; rw [h1, h2, h4]; rfl]
     rw [show bcE b c ps w fl t st i k (s.1, os, s.2) = .inl (s.1, os, s.2) by unfold bcE; simp only; rw [h1, h4, h2]; rfl]
     exact Aps j (k + 1) s
def Ais (bl : List (TCT A4)) (c : TCT D5) (ps : Dss) (w fl t st : Int) (i : Nat) (s : S2) : S2 ⊕ Int := Ag (bcE (D9 bl i) c ps w fl t st i) 0 ps.length s
theorem A0o {bl : List (TCT A4)} {c : TCT D5} {ps : Dss} {os : List Bool} {w fl t st : Int} : ∀ (k i : Nat) (s : MK), Ag (Ais bl c ps w fl t st) i k (s.1, os, s.2) = upM os (Ag (boE bl c ps os w fl t st) i k s)
 | 0, _, _ => rfl
 | k + 1, i, s => by
  unfold Ag
  rw [show Ais bl c ps w fl t st i (s.1, os, s.2) = upM os (boE bl c ps os w fl t st i s) from Aps ps.length 0 s]
  cases boE bl c ps os w fl t st i s with
  | inl s' => exact A0o k (i + 1) s'
  | inr e => rfl
def Apt (c : RT) : S2 ⊕ Int → A1 (E_k 9000)
 | .inl s => Z9 6 9000 c s
 | .inr e => B6k 9000 e
theorem B6m {bl : List (TCT A4)} {c : TCT D5} {ps : Dss} {w fl t st : Int} {n k0 m : Nat} (i : Nat) (s s' : S2) (_ : i < m) (hl : Inv2 n (k0 + i * ps.length) 0 s) (h : Ais bl c ps w fl t st i s = .inl s') : Inv2 n (k0 + (i + 1) * ps.length) 0 s' := by
 have a := B8 (n := ps.length) (Inv := Inv2 n (k0 + i * ps.length)) Apr ps.length 0 s s' (by omega) hl h
 have e : (i + 1) * ps.length = i * ps.length + ps.length := Nat.succ_mul i ps.length
 exact ⟨a.m, a.o, by have := a.k; omega⟩
theorem Bd2 {c : RT} {s : S2} {k0 : Nat} (hn8 : nB c ≤ 8) (hs : Inv2 (nB c) k0 0 s) (hk0 : k0 ≤ 900000) (hps : c.ps.length ≤ 1000) :
  iter A0m (nB c + 1) (M2 19 9000 c 0 s) = some (Apt c (Ag (Ais (blX c.g) (Fg c.g) c.ps c.w c.fl c.t c.st) 0 (nB c) s)) := by
 have hn : (nB c : Int) ≤ As .i64 := by show (nB c : Int) ≤ 9223372036854775807; omega
 refine Ef (nB c) (fun i s => M2 19 9000 c i s) (Ais (blX c.g) (Fg c.g) c.ps c.w c.fl c.t c.st) (Apt c) (fun i s => Inv2 (nB c) (k0 + i * c.ps.length) 0 s) (fun i s hi hl => ?_) B6m (fun s hl => ?_) (nB c) 0 s (by omega) ⟨hs.m, hs.o, by have := hs.k; omega⟩
 ·show (W7 c i s).run = _
  have h3 : i * c.ps.length ≤ 8 * 1000 := Nat.mul_le_mul (by omega) hps
  unfold W7
  rw [decide_eq_true (show (i : Int) < (nB c : Int) by omega), Bd1 hi hl (by omega) hps]
  unfold Ais
  cases Ag (bcE (D9 (blX c.g) i) (Fg c.g) c.ps c.w c.fl c.t c.st i) 0 c.ps.length s with
  | inl s' =>
   show (Tree.leaf (.inl (M2 19 9000 c (W64 ((i : Int) + 1)) s')) : TK 19 9000).run = _
   rw [Bs hi hn]
   rfl
  | inr e => rfl
 ·show (W7 c (nB c) s).run = _
  unfold W7
  rw [decide_eq_false (show ¬ (nB c : Int) < (nB c : Int) by omega)]
  rfl
end St
def Apu {L : FLay} {E : Bool → FLay} {A : Type} (Y : L.T → Option (A ⊕ Int)) (mk : L.T → A → ((E true).T → Tree (Bl E)) → Tree (Bl E)) (er : Int → (E true).T) (d : A) (g : L.T) : Tree (Bl E) :=
 .br (isL (Y g)) (mk g (gL d (Y g)) fun y => .leaf ⟨true, y⟩) (.br (isR (Y g)) (.leaf ⟨true, er (gR 0 (Y g))⟩) .fail)
theorem Axx {X : Ctx} (hX : CtxOk X) {f : FuncId} (m : Nat) {probe : Ac → List AV → Option (List Nat)} {L : FLay} {E : Bool → FLay} (hE : ∀ b, L.nx ≤ (E b).nx) {A : Type} (Y : L.T → Option (A ⊕ Int)) (mk : L.T → A → ((E true).T → Tree (Bl E)) → Tree (Bl E)) (mk0 : L.T → A → (E true).T) (hmk : ∀ g a k, mk g a k = k (mk0 g a)) (er : Int → (E true).T) (d : A) (T : L.T → Tree (Bl E))
  (he : ∀ g, H8 X (C4 X m) f (ofKs L.ks g.1 L.nx) (L.lay.hp g) (L.lay.of g).nx (Ki E) = T g)
  (h : ∀ g z, L.lay.WF g → Y g = some z → (T g).run = some (match z with
   | .inl a => ⟨true, mk0 g a⟩
   | .inr e => ⟨true, er e⟩)) : Ax X.P f (Gr probe L E (Apu Y mk er d)) :=
 R4 hX m hE fun g R hw hf => by
  rw [he]
  unfold Apu at hf
  obtain ⟨h1, h2⟩ := hf
  cases hY : Y g with
  | none => rw [hY] at h2; exact ((h2 rfl).2 rfl).elim
  | some z =>
   have hz := h g z hw hY
   cases z with
   | inl a =>
    rw [hY, hmk] at h1
    exact Gz (Tree.sat_run hz (h1 rfl)) fun x hx _ => hx
   | inr e =>
    rw [hY] at h2
    exact Gz (Tree.sat_run hz ((h2 rfl).1 rfl)) fun x hx _ => hx
namespace St
noncomputable def B2j : Code := (A8 (bodyOf Tryz.f63)).getD 0 .skip
noncomputable def B2k : Code := (A8 (bodyOf Tryz.f63)).getD 1 .skip
noncomputable def B2l : Code := (A8 (bodyOf Tryz.f63)).getD 2 .skip
abbrev Bd3 : List BK := [(1002, 34, kGr), (1003, 38, kSo), (1004, 38, kSt)]
def Abd : Lay := { keys := [2, 3, 4, 5, 8, 11, 12, 13, 14], ks := [.d cI, .d cI, .p 1002 0 0 0, .p 1003 0 0 0, .p 1004 0 0 0, kI, kBa, kMo, .d cI], bs := Bd3, n := 110, nx := 3000, marks := [] }
def Bd4 : Lay := { keys := [2, 3, 4, 5, 8, 11, 12, 13], ks := [.d cI, .d cI, .p 1002 0 0 0, .p 1003 0 0 0, .p 1004 0 0 0, kI, kBa, kMo], bs := Bd3, n := 110, nx := 3000, marks := [] }
def Abe : XE → Lay := fun _ => Bd4
def cQ (g : SKTs kGr) (z : SKTs kSt) (w fl t : Int) : RT := ⟨g, z, w, fl, t, [], 0⟩
def W8 (tk sp : Int) (c : RT) (ms : Af) (os : List Bool) (i : Int) (s : GA) : Abd.T := ((tk, sp, (), (), (), s.1, s.2.1, s.2.2, i, ()), bR c (ms, os, []))
def Apv (tk sp : Int) (c : RT) (ms : Af) (os : List Bool) (s : GA) : A1 Abe := ⟨.exit 0, ((tk, sp, (), (), (), s.1, s.2.1, s.2.2, ()), bR c (ms, os, []))⟩
abbrev TQ1 := Tree (Abd.T ⊕ A1 Abe)
def Abf (tk sp : Int) (c : RT) (ms : Af) (os : List Bool) (i : Int) (s : GA) : TQ1 := ap8 s.1 i (inN (nB c) i (Aod s.2.1 (D9 (blX c.g) (Int.toNat i)) (inO ms.length i (Aoe s.2.2 (Ai ms (Int.toNat i)) (.leaf (.inl (W8 tk sp c ms os (W64 (i + 1)) (ga1 i (D9 (blX c.g) (Int.toNat i)) (Ai ms (Int.toNat i)) s))))))))
def W9 (tk sp : Int) (c : RT) (ms : Af) (os : List Bool) (i : Int) (s : GA) : TQ1 := bif decide (i < (nB c : Int)) then inO os.length i (bif !At os (Int.toNat i) (Aq .b) then bif i == c.w then bif !decide (c.fl > 0) then Abf tk sp c ms os i s else .leaf (.inl (W8 tk sp c ms os (W64 (i + 1)) s)) else Abf tk sp c ms os i s
 else .leaf (.inl (W8 tk sp c ms os (W64 (i + 1)) s))) else .leaf (.inr (Apv tk sp c ms os s))
def A0p (g : Abd.T) : TQ1 := W9 g.1.1 g.1.2.1 (cQ g.2.1 g.2.2.2.1 g.2.2.1.2.2.1 g.2.2.1.2.2.2.1 g.2.2.1.2.2.2.2.1) g.2.2.1.1 g.2.2.1.2.1 g.1.2.2.2.2.2.2.2.2.1 (g.1.2.2.2.2.2.1, g.1.2.2.2.2.2.2.1, g.1.2.2.2.2.2.2.2.1)
def Apw (g : Abd.T) : Nat := (blX g.2.1).length + 1
theorem Bhm : Ae Tryz.prog 63 B2j (A9 Abd Abe (Bu [.exit 0] A0p Apw)) := Aw J9 7 _ Abd Abe (fun _ => Nat.le_refl _) [.exit 0] A0p Apw (fun g => by kernel_rfl)
def B6n (tk sp : Int) (c : RT) (ms : Af) (os : List Bool) (r : GA ⊕ Empty) : A1 Abe := Apv tk sp c ms os (unE r)
theorem Bd5 {tk sp : Int} {c : RT} {ms : Af} {os : List Bool} (hn8 : nB c ≤ 8) (hm : ms.length = nB c) (ho : os.length = nB c) : iter A0p (nB c + 1) (W8 tk sp c ms os 0 ([], [], [])) = some (Apv tk sp c ms os (gaV (blX c.g) c.w c.fl (nB c) ms os)) := by
 have hn : (nB c : Int) ≤ As .i64 := by show (nB c : Int) ≤ 9223372036854775807; omega
 refine Ef (nB c) (fun i s => W8 tk sp c ms os i s) (gaE (blX c.g) ms os c.w c.fl) (B6n tk sp c ms os) (InvG (nB c)) (fun i s hi hl => ?_) A2k (fun s hl => ?_) (nB c) 0 ([], [], []) (by omega) ⟨rfl, rfl, Nat.le_refl _, fun _ h => absurd h List.not_mem_nil⟩
 ·show (W9 tk sp c ms os i s).run = _
  have h1 := hl.b
  have h2 := hl.m
  have h3 := hl.k
  unfold W9 Abf gaE El
  rw [decide_eq_true (show (i : Int) < (nB c : Int) by omega), Bp (by omega), Aof (by omega), Ci (by omega), Aes (by omega), Bp (by omega), Aet (by omega), show Int.toNat (i : Int) = i from rfl, Bs hi hn]
  cases At os i (Aq .b) with
  | true => rfl
  | false =>
   cases (i : Int) == c.w with
   | false => rfl
   | true => cases decide (c.fl > 0) <;> rfl
 ·show (W9 tk sp c ms os (nB c) s).run = _
  unfold W9
  rw [decide_eq_false (show ¬ (nB c : Int) < (nB c : Int) by omega)]
  rfl
abbrev Axy : List BK := [(1003, 38, kSo), (1004, 38, kSt)]
def Abg : Lay := { keys := [2, 3, 5, 8, 11, 13, 15, 17, 18], ks := [.d cI, .d cI, .p 1003 0 0 0, .p 1004 0 0 0, kI, .d (.sl Aj), .d (.sl Eg), kKn, .d cI], bs := Axy, n := 110, nx := 4000, marks := [] }
def Bhn : Lay := { keys := [2, 3, 5, 8, 11, 15, 17], ks := [.d cI, .d cI, .p 1003 0 0 0, .p 1004 0 0 0, kI, .d (.sl Eg), kKn], bs := Axy, n := 110, nx := 4000, marks := [] }
def Abh : XE → Lay := fun _ => Bhn
def bQ (z : SKTs kSt) (q : List Bool × Int × Int × Int × Unit) (ms : Af) : SKTs kSo × SKTs kSt × Unit := ((ms, q), z, ())
abbrev QT : Type := List Bool × Int × Int × Int × Unit
def A6k (tk sp : Int) (z : SKTs kSt) (q : QT) (W : List Int) (M : Af) (P : Prs) (o : Kns) (i : Int) (ms : Af) : Abg.T := ((tk, sp, (), (), W, M, P, o, i, ()), bQ z q ms)
def Apx (tk sp : Int) (z : SKTs kSt) (q : QT) (W : List Int) (P : Prs) (o : Kns) (ms : Af) : A1 Abh := ⟨.exit 2, ((tk, sp, (), (), W, P, o, ()), bQ z q ms)⟩
abbrev TQ2 := Tree (Abg.T ⊕ A1 Abh)
def Wa (tk sp : Int) (z : SKTs kSt) (q : QT) (W : List Int) (M : Af) (P : Prs) (o : Kns) (i : Int) (ms : Af) : TQ2 := bif decide (i < (W.length : Int)) then inO W.length i (inN M.length i (inO ms.length (At W (Int.toNat i) (Aq cI)) (
 .leaf (.inl (A6k tk sp z q W M P o (W64 (i + 1)) (B5 ms (Int.toNat (At W (Int.toNat i) (Aq cI))) (Ai M (Int.toNat i)))))))) else .leaf (.inr (Apx tk sp z q W P o ms))
def A0q (g : Abg.T) : TQ2 := Wa g.1.1 g.1.2.1 g.2.2.1 g.2.1.2 g.1.2.2.2.2.1 g.1.2.2.2.2.2.1 g.1.2.2.2.2.2.2.1 g.1.2.2.2.2.2.2.2.1 g.1.2.2.2.2.2.2.2.2.1 g.2.1.1
def Apy (g : Abg.T) : Nat := (g.1.2.2.2.2.1 : List Int).length + 1
theorem Bho : Ae Tryz.prog 63 B2k (A9 Abg Abh (Bu [.exit 2] A0q Apy)) := Aw J9 7 _ Abg Abh (fun _ => Nat.le_refl _) [.exit 2] A0q Apy (fun g => by kernel_rfl)
def B6o (tk sp : Int) (z : SKTs kSt) (q : QT) (W : List Int) (P : Prs) (o : Kns) (r : Af ⊕ Empty) : A1 Abh := Apx tk sp z q W P o (unE r)
theorem Bd6 {tk sp : Int} {z : SKTs kSt} {q : QT} {W : List Int} {M : Af} {P : Prs} {o : Kns} {ms : Af} {n : Nat} (hW : ∀ w ∈ W, 0 ≤ w ∧ w < (n : Int)) (hM : M.length = W.length) (hms : ms.length = n) (hl : W.length ≤ 1000) :
  iter A0q (W.length + 1) (A6k tk sp z q W M P o 0 ms) = some (Apx tk sp z q W P o (scV W M ms)) := by
 have hn : (W.length : Int) ≤ As .i64 := by show (W.length : Int) ≤ 9223372036854775807; omega
 refine Ef W.length (fun i s => A6k tk sp z q W M P o i s) (scE W M) (B6o tk sp z q W P o) (fun _ s => s.length = n) (fun i s hi hs => ?_) Aar (fun s hs => ?_) W.length 0 ms (by omega) hms
 ·show (Wa tk sp z q W M P o i s).run = _
  have hw := hW (At W i (Aq cI)) (by rw [E7 hi]; exact List.getElem_mem hi)
  unfold Wa
  rw [decide_eq_true (show (i : Int) < (W.length : Int) by omega), Bp (by omega), Ci (by omega), show Int.toNat (i : Int) = i from rfl, Bp (by omega), Bs hi hn]
  rfl
 ·show (Wa tk sp z q W M P o W.length s).run = _
  unfold Wa
  rw [decide_eq_false (show ¬ (W.length : Int) < (W.length : Int) by omega)]
  rfl
def Abi : Lay := { keys := [2, 3, 5, 8, 11, 15, 17, 19], ks := [.d cI, .d cI, .p 1003 0 0 0, .p 1004 0 0 0, kI, .d (.sl Eg), kKn, .d cI], bs := Axy, n := 110, nx := 5000, marks := [] }
def Bhp : Lay := { keys := [5, 8, 17], ks := [.p 1003 0 0 0, .p 1004 0 0 0, kKn], bs := Axy, n := 110, nx := 5000, marks := [] }
def Abj : XE → Lay := fun _ => Bhp
def A6l (tk sp : Int) (z : SKTs kSt) (q : QT) (ms : Af) (W : List Int) (P : Prs) (i : Int) (o : Kns) : Abi.T := ((tk, sp, (), (), W, P, o, i, ()), bQ z q ms)
def Apz (z : SKTs kSt) (q : QT) (ms : Af) (o : Kns) : A1 Abj := ⟨.exit 4, (((), (), o, ()), bQ z q ms)⟩
abbrev TQ3 := Tree (Abi.T ⊕ A1 Abj)
def Wb (tk sp : Int) (z : SKTs kSt) (q : QT) (ms : Af) (W : List Int) (P : Prs) (i : Int) (o : Kns) : TQ3 := bif decide (i < (P.length : Int)) then inN P.length i (inO W.length (Rl P (Int.toNat i)).1 (inN P.length i (inO W.length (Rl P (Int.toNat i)).2.1 (
 Tt o (knP tk sp W (Rl P (Int.toNat i))) fun o' => .leaf (.inl (A6l tk sp z q ms W P (W64 (i + 1)) o')))))) else .leaf (.inr (Apz z q ms o))
def A0r (g : Abi.T) : TQ3 := Wb g.1.1 g.1.2.1 g.2.2.1 g.2.1.2 g.2.1.1 g.1.2.2.2.2.1 g.1.2.2.2.2.2.1 g.1.2.2.2.2.2.2.2.1 g.1.2.2.2.2.2.2.1
def Aq0 (g : Abi.T) : Nat := (g.1.2.2.2.2.2.1 : Prs).length + 1
theorem Bhq : Ae Tryz.prog 63 B2l (A9 Abi Abj (Bu [.exit 4] A0r Aq0)) := Aw J9 7 _ Abi Abj (fun _ => Nat.le_refl _) [.exit 4] A0r Aq0 (fun g => by kernel_rfl)
def B6p (z : SKTs kSt) (q : QT) (ms : Af) (r : Kns ⊕ Empty) : A1 Abj := Apz z q ms (unE r)
theorem Bd7 {tk sp : Int} {z : SKTs kSt} {q : QT} {ms : Af} {W : List Int} {P : Prs} {o : Kns} (hP : ∀ p ∈ P, Z6 W.length p) (hk : o.length ≤ 900000) (hl : P.length ≤ 1000) :
  iter A0r (P.length + 1) (A6l tk sp z q ms W P 0 o) = some (Apz z q ms (kpV W P tk sp o)) := by
 have hn : (P.length : Int) ≤ As .i64 := by show (P.length : Int) ≤ 9223372036854775807; omega
 refine Ef P.length (fun i s => A6l tk sp z q ms W P i s) (kpE W P tk sp) (B6p z q ms) (fun i s => s.length = o.length + i) (fun i s hi hs => ?_) Aat (fun s hs => ?_) P.length 0 o (by omega) rfl
 ·show (Wb tk sp z q ms W P i s).run = _
  have hp := hP (Rl P i) (by unfold Rl; rw [E7 hi]; exact List.getElem_mem hi)
  unfold Wb Tt
  rw [decide_eq_true (show (i : Int) < (P.length : Int) by omega), Ci (by omega), show Int.toNat (i : Int) = i from rfl, Bp ⟨hp.1, Int.lt_trans hp.2.1 hp.2.2⟩, Ci (by omega), Bp ⟨Int.le_trans hp.1 (Int.le_of_lt hp.2.1), hp.2.2⟩, Gi (by simp; omega) (by decide), Bs hi hn]
  rfl
 ·show (Wb tk sp z q ms W P P.length s).run = _
  unfold Wb
  rw [decide_eq_false (show ¬ (P.length : Int) < (P.length : Int) by omega)]
  rfl
noncomputable def B2m : Code := (A8 (bodyOf Tryz.f27)).getD 0 .skip
abbrev Bd8 : List BK := [(5, 38, kSo), (6, 38, kSo)]
abbrev Bhr : List BK := (4, 34, kGr) :: Bd8
def A6m : Lay := { keys := [2, 3, 4, 6], ks := [.p 4 0 0 0, .p 5 0 0 0, .p 6 0 0 0, .d cI], bs := Bhr, n := 90, nx := 3000, marks := [] }
def Bhs : Lay := { keys := [3, 4], ks := [.p 5 0 0 0, .p 6 0 0 0], bs := Bd8, n := 90, nx := 3000, marks := [] }
def Bd9 : Lay := { keys := [4, 5], ks := [.p 6 0 0 0, .d cI], bs := [(6, 38, kSo)], n := 90, nx := 3000, marks := [] }
def Zf : XE → Lay := fun e => match e with | .ret => Bd9 | _ => Bhs
theorem Axz (e : XE) : A6m.nx ≤ (Zf e).nx := by cases e <;> exact Nat.le_refl _
def Sz (c : RT) (os : List Bool) (i : Int) (ms : Af) : A6m.T := (((), (), (), i, ()), bR c (ms, os, []))
def B2n (c : RT) (os : List Bool) (ms : Af) : A1 Zf := ⟨.exit 0, (((), (), ()), ((ms, os, c.w, c.fl, c.t, ()), c.z, ()))⟩
def B2o : A1 Zf := ⟨.ret, (((), 4, ()), (r0, ()))⟩
abbrev TRw := Tree (A6m.T ⊕ A1 Zf)
def szX {β : Type} (g : SKTs kGr) (k : Tree β) : Tree β := bif decide ((g.1.size : Int) ≤ As .i64) then k else .fail
def Aq1 (c : RT) (os : List Bool) (i : Int) (ms : Af) : TRw := szX c.g (bif (Ls (lwG c.g) (Ai ms (Int.toNat i))).2.1 != 0 then .leaf (.inr B2o) else inO ms.length i (.leaf (.inl (Sz c os (W64 (i + 1)) (B5 ms (Int.toNat i) (Aai (lwG c.g) (Ai ms (Int.toNat i))))))))
def Wc (c : RT) (os : List Bool) (i : Int) (ms : Af) : TRw := bif decide (i < (nB c : Int)) then inO ms.length i (inO os.length i (bif At os (Int.toNat i) (Aq .b) then .leaf (.inl (Sz c os (W64 (i + 1)) ms)) else
 bif I0 (Ai ms (Int.toNat i)) then .leaf (.inl (Sz c os (W64 (i + 1)) ms)) else bif i == c.w then bif decide (c.fl > 0) then .leaf (.inl (Sz c os (W64 (i + 1)) ms)) else Aq1 c os i ms else Aq1 c os i ms)) else .leaf (.inr (B2n c os ms))
def A6n (g : A6m.T) : TRw := Wc (cQ g.2.1 g.2.2.2.1 g.2.2.1.2.2.1 g.2.2.1.2.2.2.1 g.2.2.1.2.2.2.2.1) g.2.2.1.2.1 g.1.2.2.2.1 g.2.2.1.1
def Aq2 (g : A6m.T) : Nat := (blX g.2.1).length + 1
theorem Bht : Ae Tryz.prog 27 B2m (A9 A6m Zf (Bu [.ret, .exit 0] A6n Aq2)) := Aw J9 7 _ A6m Zf Axz [.ret, .exit 0] A6n Aq2 (fun g => by kernel_rfl)
def srE (l : TCT An) (os : List Bool) (w fl : Int) (i : Nat) (ms : Af) : Af ⊕ Int :=
 bif !C1 ms os i || El w fl i then .inl ms else bif (Ls l (Ai ms i)).2.1 != 0 then .inr 4 else .inl (B5 ms i (Aai l (Ai ms i)))
def Wd (c : RT) (os : List Bool) : Af ⊕ Int → A1 Zf
 | .inl ms => B2n c os ms
 | .inr _ => B2o
theorem Aq3 {l : TCT An} {os : List Bool} {w fl : Int} {n : Nat} (i : Nat) (s s' : Af) (_ : i < n) (hi : s.length = n) (h : srE l os w fl i s = .inl s') : s'.length = n := by
 unfold srE at h
 cases h1 : !C1 s os i || El w fl i with
 | true => rw [h1] at h; cases h; exact hi
 | false =>
  rw [h1] at h
  cases h3 : (Ls l (Ai s i)).2.1 != 0 with
  | true => rw [h3] at h; cases h
  | false => rw [h3] at h; cases h; rw [Br]; exact hi
theorem Bda {c : RT} {os : List Bool} {ms : Af} (hsz : (c.g.1.size : Int) ≤ As .i64) (hn8 : nB c ≤ 8) (hm : ms.length = nB c) (ho : os.length = nB c) : iter A6n (nB c + 1) (Sz c os 0 ms) = some (Wd c os (Ag (srE (lwG c.g) os c.w c.fl) 0 (nB c) ms)) := by
 have hn : (nB c : Int) ≤ As .i64 := by show (nB c : Int) ≤ 9223372036854775807; omega
 refine Ef (nB c) (fun i s => Sz c os i s) (srE (lwG c.g) os c.w c.fl) (Wd c os) (fun _ s => s.length = nB c) (fun i s hi hl => ?_) Aq3 (fun s hl => ?_) (nB c) 0 ms (by omega) hm
 ·show (Wc c os i s).run = _
  unfold Wc Aq1 srE C1 El szX
  rw [decide_eq_true (show (i : Int) < (nB c : Int) by omega), Bp (by omega), Bp (by omega), Bp (by omega), decide_eq_true hsz, show Int.toNat (i : Int) = i from rfl, Bs hi hn]
  show Tree.run (bif At os i (Aq .b) then _ else bif I0 (Ai s i) then _ else _ : TRw) = some (Vi (fun i s => Sz c os (i : Nat) s) (Wd c os) i (bif !(!At os i (Aq .b) && !I0 (Ai s i)) || _ then .inl s else _))
  cases At os i (Aq .b) with
  | true => rfl
  | false =>
   cases I0 (Ai s i) with
   | true => rfl
   | false =>
    simp only [Bool.not_false, Bool.and_self, Bool.not_true, cond_false, Bool.false_or, cond_true]
    cases (i : Int) == c.w with
    | false =>
     simp only [Bool.false_and, cond_false]
     cases (Ls (lwG c.g) (Ai s i)).2.1 != 0 <;> rfl
    | true =>
     simp only [Bool.true_and, cond_true]
     cases decide (c.fl > 0) with
     | true => rfl
     | false =>
      simp only [cond_false]
      cases (Ls (lwG c.g) (Ai s i)).2.1 != 0 <;> rfl
 ·show (Wc c os (nB c) s).run = _
  unfold Wc
  rw [decide_eq_false (show ¬ (nB c : Int) < (nB c : Int) by omega)]
  rfl
end St
def B6q {E : Bool → FLay} {A : Type} (y : Option (A ⊕ Int)) (er : Int → (E true).T) : List Int → Tree (Bl E)
 | [] => .fail
 | e :: es => .br (isR y && gR 0 y == e) (.leaf ⟨true, er e⟩) (B6q y er es)
theorem A6o {E : Bool → FLay} {A : Type} {y : Option (A ⊕ Int)} {er : Int → (E true).T} {R : Bl E → Prop} : ∀ {es : List Int}, (B6q y er es).sat R → ∃ e, y = some (.inr e) ∧ R ⟨true, er e⟩
 | [], h => h.elim
 | e :: es, h => by
  obtain ⟨h1, h2⟩ := h
  cases hb : isR y && gR 0 y == e with
  | false => exact A6o (h2 hb)
  | true =>
   rw [Bool.and_eq_true] at hb
   cases hy : y with
   | none => rw [hy] at hb; exact absurd hb.1 (by simp [isR])
   | some z =>
    cases z with
    | inl a => rw [hy] at hb; exact absurd hb.1 (by simp [isR])
    | inr x =>
     rw [hy] at hb
     have : x = e := beq_iff_eq.1 hb.2
     subst this
     refine ⟨x, rfl, h1 ?_⟩
     rw [hy, Bool.and_eq_true]
     exact hb
def Afq {L : FLay} {E : Bool → FLay} {A : Type} (Y : L.T → Option (A ⊕ Int)) (mk : L.T → A → ((E true).T → Tree (Bl E)) → Tree (Bl E)) (er : Int → (E true).T) (es : List Int) (d : A) (g : L.T) : Tree (Bl E) :=
 .br (isL (Y g)) (mk g (gL d (Y g)) fun y => .leaf ⟨true, y⟩) (B6q (Y g) er es)
def Aq4 {L : FLay} {E : Bool → FLay} {A : Type} (mk0 : L.T → A → (E true).T) (er : Int → (E true).T) (g : L.T) : A ⊕ Int → Bl E
 | .inl a => ⟨true, mk0 g a⟩
 | .inr e => ⟨true, er e⟩
theorem Afr {X : Ctx} (hX : CtxOk X) {f : FuncId} (m : Nat) {probe : Ac → List AV → Option (List Nat)} {L : FLay} {E : Bool → FLay} (hE : ∀ b, L.nx ≤ (E b).nx) {A : Type} (Y : L.T → Option (A ⊕ Int)) (mk : L.T → A → ((E true).T → Tree (Bl E)) → Tree (Bl E)) (mk0 : L.T → A → (E true).T) (hmk : ∀ g a k, mk g a k = k (mk0 g a)) (er : Int → (E true).T) (es : List Int) (d : A) (T : L.T → Tree (Bl E))
  (he : ∀ g, H8 X (C4 X m) f (ofKs L.ks g.1 L.nx) (L.lay.hp g) (L.lay.of g).nx (Ki E) = T g)
  (h : ∀ g z, L.lay.WF g → Y g = some z → (T g).run = some (Aq4 mk0 er g z)) : Ax X.P f (Gr probe L E (Afq Y mk er es d)) :=
 R4 hX m hE fun g R hw hf => by
  rw [he]
  unfold Afq at hf
  obtain ⟨h1, h2⟩ := hf
  cases hl : isL (Y g) with
  | true =>
   cases hY : Y g with
   | none => rw [hY] at hl; cases hl
   | some z =>
    cases z with
    | inr e => rw [hY] at hl; cases hl
    | inl a =>
     have h1' := h1 hl
     rw [hY, hmk] at h1'
     exact Gz (Tree.sat_run (h g _ hw hY) h1') fun x hx _ => hx
  | false =>
   obtain ⟨e, hY, hr⟩ := A6o (h2 hl)
   exact Gz (Tree.sat_run (h g _ hw hY) hr) fun x hx _ => hx
def thL {A β : Type} (y : Option (A ⊕ Int)) (d : A) (pn : Int → Tree β) (k : A → Tree β) : List Int → Tree β
 | es => bif isL y then k (gL d y) else (es.foldr (fun e t => bif isR y && gR 0 y == e then pn e else t) .fail)
theorem Aq5 {A β : Type} {y : Option (A ⊕ Int)} {d a : A} {pn : Int → Tree β} {k : A → Tree β} {es : List Int} (h : y = some (.inl a)) : thL y d pn k es = k a := by rw [h]; rfl
theorem Aq6 {A β : Type} {y : Option (A ⊕ Int)} {d : A} {e : Int} {pn : Int → Tree β} {k : A → Tree β} {es : List Int} (h : y = some (.inr e)) (he : e ∈ es) : thL y d pn k es = pn e := by
 rw [h]
 show es.foldr (fun x t => bif e == x then pn x else t) .fail = pn e
 induction es with
 | nil => cases he
 | cons a l ih =>
  rw [List.foldr_cons]
  cases hc : e == a with
  | true => rw [← beq_iff_eq.1 hc]; rfl
  | false =>
   simp only [cond_false]
   rcases List.mem_cons.1 he with rfl | he
   ·rw [beq_self_eq_true] at hc; cases hc
   ·exact ih he
namespace St
def Gj : FLay := { ks := [.d cGr, .ag kSo, .d cI, .d cI], bs := [], nx := 1000 }
def Bdb : FLay := { ks := [.ag kSo, kKn, .d cI], bs := [], nx := 1000 }
def O9 (b : Bool) : FLay := bif b then Bdb else FN
theorem Aq7 (b : Bool) : 1000 ≤ (O9 b).nx := by cases b <;> exact Nat.le_refl _
def B6r (_ : Ac) (args : List AV) : Option (List Nat) := match args with
 | [_, .agg cs, _, _] => some (Aif cs)
 | _ => none
def erR (e : Int) : (O9 true).T := ((([], [], 0, 0, 0, ()), [], e, ()), ())
abbrev TRs := Tree (Bl O9)
def B2p (y : Option (A1 Abj)) : TRs := bif isE (.exit 4) y then .leaf ⟨true, (((B7 (.exit 4) y).2.1, (B7 (.exit 4) y).1.2.2.1, 0, ()), ())⟩ else .fail
def B2q (y : Option (A1 Abh)) : TRs := bif isE (.exit 2) y then B2p (iter A0r (((B7 (.exit 2) y).1.2.2.2.2.2.1 : Prs).length + 1) (A6l (B7 (.exit 2) y).1.1 (B7 (.exit 2) y).1.2.1 (B7 (.exit 2) y).2.2.1 (B7 (.exit 2) y).2.1.2 (B7 (.exit 2) y).2.1.1 (B7 (.exit 2) y).1.2.2.2.2.1 (B7 (.exit 2) y).1.2.2.2.2.2.1 0 (B7 (.exit 2) y).1.2.2.2.2.2.2.1)) else .fail
def Abk (v : Bd4.T) (r : Ajb) : TRs := bif r.2.2.1 != 0 then .leaf ⟨true, erR r.2.2.1⟩ else B2q (iter A0q ((v.1.2.2.2.2.2.1 : List Int).length + 1) (A6k v.1.1 v.1.2.1 v.2.2.2.1 v.2.2.1.2 v.1.2.2.2.2.2.1 r.1 r.2.1 [] 0 v.2.2.1.1))
def Bdc (y : Option (A1 Abe)) : TRs := bif isE (.exit 0) y then Abk (B7 (.exit 0) y) (C3 (B7 (.exit 0) y).1.2.2.2.2.2.2.1 (B7 (.exit 0) y).1.2.2.2.2.2.2.2.1 (Fg (B7 (.exit 0) y).2.1).1 (Fg (B7 (.exit 0) y).2.1).2.1) else .fail
def cS (g : TCT cGr) (w fl t : Int) : RT := cQ (Ek g) r0 w fl t
def Ay0 (g : TCT cGr) (s : SKTs kSo) (tk sp : Int) : TRs := Bdc (iter A0p ((A3 g).length + 1) (W8 tk sp (cS g s.2.2.1 s.2.2.2.1 s.2.2.2.2.1) s.1 s.2.1 0 ([], [], [])))
def A6p (g : TCT cGr) (s : SKTs kSo) : Bool := decide (s.1.length = (A3 g).length) && (decide ((s.2.1 : List Bool).length = (A3 g).length) && decide ((A3 g).length ≤ 8))
def seR (g : TCT cGr) (s : SKTs kSo) (tk sp : Int) : MK ⊕ Int := seF (A3 g) g.2.2.1 tk sp s.2.2.1 s.2.2.2.1 (A3 g).length (s.1, s.2.1, [])
def H0 (x : Gj.T) : Option (MK ⊕ Int) := bif A6p x.1.1 x.1.2.1 then some (seR x.1.1 x.1.2.1 x.1.2.2.1 x.1.2.2.2.1) else none
def Aq8 (x : Gj.T) (a : MK) (k : (O9 true).T → TRs) : TRs := match x.1.2.1 with
 | (_, os, w, fl, t, _) => k (((a.1, os, w, fl, t, ()), a.2, 0, ()), ())
def A2v (x : Gj.T) (a : MK) : (O9 true).T := (((a.1, x.1.2.1.2), a.2, 0, ()), ())
theorem Aq9 (x : Gj.T) (a : MK) (k : (O9 true).T → TRs) : Aq8 x a k = k (A2v x a) := rfl
noncomputable def Aqa : Ctx := Kj Tryz.prog Ab8 [(63, Tryz.f63), (119, Tryz.f119)] [((63, 5), A9 Abd Abe (Bu [.exit 0] A0p Apw)), ((63, 16), A9 Abg Abh (Bu [.exit 2] A0q Apy)), ((63, 20), A9 Abi Abj (Bu [.exit 4] A0r Aq0))] []
theorem Aqb : CtxOk Aqa := D8 Ab Air (fns_cons is_bz (fns_cons is_bA A2)) (Ap (Fm (ds := [B2j, B2k, B2l]) (by kernel_rfl) ⟨Ec (k := 5) (by kernel_rfl) rfl Bhm, Ec (k := 16) (by kernel_rfl) rfl Bho, Ec (k := 20) (by kernel_rfl) rfl Bhq, trivial⟩) (Ap (Av (by kernel_rfl)) Ez)) (fun p hp => nomatch hp)
theorem Bhu (x : Gj.T) : H8 Aqa (C4 Aqa 6) 63 (ofKs Gj.ks x.1 Gj.nx) (Gj.lay.hp x) (Gj.lay.of x).nx (Ki O9) = Ay0 x.1.1 x.1.2.1 x.1.2.2.1 x.1.2.2.2.1 := by kernel_rfl
theorem B6s {x : Gj.T} {z : MK ⊕ Int} (h : H0 x = some z) : (Ay0 x.1.1 x.1.2.1 x.1.2.2.1 x.1.2.2.2.1).run = some (Aq4 (L := Gj) (E := O9) A2v erR x z) := by
 obtain ⟨⟨g, s, tk, sp, ⟨⟩⟩, ⟨⟩⟩ := x
 obtain ⟨ms, os, w, fl, t, ⟨⟩⟩ := s
 unfold H0 at h
 simp only at h
 cases ho : A6p g (ms, os, w, fl, t, ()) with
 | false => rw [ho] at h; cases h
 | true =>
  rw [ho] at h
  cases h
  unfold A6p at ho
  simp only [Bool.and_eq_true, decide_eq_true_eq] at ho
  obtain ⟨hm, hos, hn8⟩ := ho
  unfold Ay0
  rw [show iter A0p ((A3 g).length + 1) (W8 tk sp (cS g w fl t) ms os 0 ([], [], [])) = _ from Bd5 (c := cS g w fl t) hn8 hm hos]
  show (Abk ((tk, sp, (), (), (), (seG (A3 g) w fl (A3 g).length (ms, os, [])).1, (seG (A3 g) w fl (A3 g).length (ms, os, [])).2.1, (seG (A3 g) w fl (A3 g).length (ms, os, [])).2.2, ()), bR (cS g w fl t) (ms, os, [])) (seS (A3 g) g.2.2.1 w fl (A3 g).length (ms, os, []))).run = some (Aq4 (L := Gj) (E := O9) A2v erR _ (seF (A3 g) g.2.2.1 tk sp w fl (A3 g).length (ms, os, [])))
  unfold seF Abk
  cases he : (seS (A3 g) g.2.2.1 w fl (A3 g).length (ms, os, [])).2.2.1 != 0 with
  | true => rfl
  | false =>
   have hs := Aav (bl := A3 g) (bc := g.2.2.1) (w := w) (fl := fl) (s := (ms, os, [])) hn8 (bne_eq_false_iff_eq.1 he)
   have hi : InvG (A3 g).length (A3 g).length (seG (A3 g) w fl (A3 g).length (ms, os, [])) := A2l
   have hik := hi.k
   have h64 := hs.2.1
   simp only [cond_false]
   show (B2q (iter A0q ((seG (A3 g) w fl (A3 g).length (ms, os, [])).1.length + 1) (A6k tk sp r0 (os, w, fl, t, ()) (seG (A3 g) w fl (A3 g).length (ms, os, [])).1 (seS (A3 g) g.2.2.1 w fl (A3 g).length (ms, os, [])).1 (seS (A3 g) g.2.2.1 w fl (A3 g).length (ms, os, [])).2.1 [] 0 ms))).run = _
   rw [Bd6 (z := r0) (q := (os, w, fl, t, ())) hi.r hs.1 hm (by omega)]
   show (B2p (iter A0r ((seS (A3 g) g.2.2.1 w fl (A3 g).length (ms, os, [])).2.1.length + 1) (A6l tk sp r0 (os, w, fl, t, ()) (scV (seG (A3 g) w fl (A3 g).length (ms, os, [])).1 (seS (A3 g) g.2.2.1 w fl (A3 g).length (ms, os, [])).1 ms) (seG (A3 g) w fl (A3 g).length (ms, os, [])).1 (seS (A3 g) g.2.2.1 w fl (A3 g).length (ms, os, [])).2.1 0 []))).run = _
   rw [Bd7 hs.2.2 (Nat.zero_le _) (by omega)]
   rfl
def esR : List Int := [2, 4, 6, 17]
theorem Aqc {bl : List (TCT A4)} {c : TCT D5} {t st w fl : Int} {n : Nat} {s : S2} {e : Int} (h : seF bl c t st w fl n s = .inr e) : e ∈ esR := by
 unfold seF at h
 cases he : (seS bl c w fl n s).2.2.1 != 0 with
 | false => rw [he] at h; cases h
 | true =>
  rw [he] at h
  cases h
  have hne := bne_iff_ne.1 he
  unfold seS C3 at hne ⊢
  unfold esR
  generalize (seG bl w fl n s).2.1 = l at hne ⊢
  generalize (seG bl w fl n s).2.2 = m at hne ⊢
  cases h1 : J3 l m != 0 with
  | true =>
   rw [h1] at hne
   simp only [cond_true] at hne ⊢
   unfold J3 at hne ⊢
   cases hd : decide ((l.length : Int) > 8) with
   | true => simp
   | false =>
    rw [hd] at hne
    simp only [cond_false] at hne ⊢
    cases hq : (l.length : Int) != (m.length : Int) with
    | true => simp
    | false =>
     rw [hq] at hne
     simp only [cond_false] at hne ⊢
     unfold okE at hne ⊢
     cases hz : (l.zip m).all Iv with
     | false => simp
     | true => rw [hz] at hne; exact absurd rfl hne
  | false =>
   rw [h1] at hne
   simp only [cond_false] at hne ⊢
   cases h2 : !Hr c.1 c.2.1 with
   | true => simp
   | false =>
    rw [h2] at hne
    simp only [cond_false] at hne ⊢
    cases h3 : V.okS (Fo l c.1 c.2.1 l.length 0 (m, [])) with
    | true => rw [h3] at hne; exact absurd rfl hne
    | false => simp
abbrev Abl (Y : Gj.T → Option (MK ⊕ Int)) : SPf := Gr B6r Gj O9 (Afq Y Aq8 erR esR ([], []))
theorem Aqd : Ax Tryz.prog 63 (Abl H0) := Afr Aqb 6 Aq7 H0 Aq8 A2v Aq9 erR esR _ (fun x => Ay0 x.1.1 x.1.2.1 x.1.2.2.1 x.1.2.2.2.1) Bhu fun _ _ _ h => B6s h
def A6q : FLay := { ks := [.d cGr, .d cSt], bs := [], nx := 4 }
def Bdd : FLay := { ks := [.ag kSo, .d cI], bs := [], nx := 1000 }
def M3 (b : Bool) : FLay := bif b then Bdd else FN
def erW (e : Int) : (M3 true).T := ((([], [], 0, 0, 0, ()), e, ()), ())
abbrev TRW := Tree (Bl M3)
def Bde (y : Option (A1 Zf)) : TRW := bif isE .ret y then .leaf ⟨true, (((B7 .ret y).2.1, (B7 .ret y).1.2.1, ()), ())⟩ else bif isE (.exit 0) y then .leaf ⟨true, (((B7 (.exit 0) y).2.1, 0, ()), ())⟩ else .fail
def Bdf (g : TCT cGr) (s : TCT cSt) : Option (A1 Zf) := iter A6n ((A3 g).length + 1) (Sz (cS g s.2.2.1 s.2.2.2.1 s.2.2.2.2.1) ([] ++ osT s) 0 ([] ++ msT s))
def Ay1 (g : TCT cGr) (s : TCT cSt) : TRW := acT (msT s) 48 (acT (osT s) 1 (Bde (Bdf g s)))
def A2w (g : TCT cGr) (s : TCT cSt) : Bool := decide ((g.1.1.size : Int) ≤ As .i64) && (decide ((msT s).length = (A3 g).length) && (decide ((osT s).length = (A3 g).length) && decide ((A3 g).length ≤ 8)))
def Abm (x : A6q.T) : Option (Af ⊕ Int) := bif A2w x.1.1 x.1.2.1 then some (Ag (srE x.1.1.1 (osT x.1.2.1) x.1.2.1.2.2.1 x.1.2.1.2.2.2.1) 0 (A3 x.1.1).length (msT x.1.2.1)) else none
def Aqe (x : A6q.T) (a : Af) : (M3 true).T := (((a, x.1.2.1.2), 0, ()), ())
noncomputable def Aqf : Ctx := Kj Tryz.prog Ab8 [(27, Tryz.f27), (20, Tryz.f20)] [((27, 3), A9 A6m Zf (Bu [.ret, .exit 0] A6n Aq2))] []
theorem Aqg : CtxOk Aqf := D8 Ab Air (fns_cons is_bw (fns_cons is_by A2)) (Ap (Fm (ds := [B2m]) (by kernel_rfl) ⟨Ec (k := 3) (by kernel_rfl) rfl Bht, trivial⟩) (Ap (Av (by kernel_rfl)) Ez)) (fun p hp => nomatch hp)
theorem Afs {l : TCT An} {os : List Bool} {w fl : Int} {i : Nat} {ms : Af} {e : Int} (h : srE l os w fl i ms = .inr e) : e = 4 := by
 unfold srE at h
 cases h1 : !C1 ms os i || El w fl i with
 | true => rw [h1] at h; cases h
 | false =>
  rw [h1] at h
  cases h3 : (Ls l (Ai ms i)).2.1 != 0 with
  | true => rw [h3] at h; cases h; rfl
  | false => rw [h3] at h; cases h
theorem B6t {x : A6q.T} {z : Af ⊕ Int} (h : Abm x = some z) : (Ay1 x.1.1 x.1.2.1).run = some (Aq4 (L := A6q) (E := M3) Aqe erW x z) := by
 obtain ⟨⟨g, s, ⟨⟩⟩, ⟨⟩⟩ := x
 obtain ⟨ms, os, w, fl, t, ⟨⟩⟩ := s
 unfold Abm at h
 simp only at h
 cases ho : A2w g (ms, os, w, fl, t, ()) with
 | false => rw [ho] at h; cases h
 | true =>
  rw [ho] at h
  cases h
  unfold A2w at ho
  simp only [Bool.and_eq_true, decide_eq_true_eq] at ho
  obtain ⟨hsz, hm, hos, hn8⟩ := ho
  have hm' : (ms : Af).length = (A3 g).length := hm
  have hos' : (os : List Bool).length = (A3 g).length := hos
  unfold Ay1
  rw [Hz (l := msT (ms, os, w, fl, t, ())) (by rw [hm]; omega) (by decide), Hz (l := osT (ms, os, w, fl, t, ())) (by rw [hos]; omega) (by decide)]
  rw [show Bdf g (ms, os, w, fl, t, ()) = some (Wd (cS g w fl t) os (Ag (srE g.1 os w fl) 0 (A3 g).length ms)) from Bda (c := cS g w fl t) (os := os) (ms := ms) hsz hn8 hm' hos']
  show (Bde (some (Wd (cS g w fl t) os (Ag (srE g.1 os w fl) 0 (A3 g).length ms)))).run = some (Aq4 (L := A6q) (E := M3) Aqe erW _ (Ag (srE g.1 os w fl) 0 (A3 g).length ms))
  cases hf : Ag (srE g.1 os w fl) 0 (A3 g).length ms with
  | inl a => rfl
  | inr e =>
   obtain ⟨j, u, hj⟩ := G6 _ _ _ _ hf
   rw [Afs hj]
   rfl
end St
def aoT {β : Type} {c : Type} (l1 l2 : List c) (b : Nat) (k : Tree β) : Tree β := bif Ex l1 l2 b then k else .fail
namespace St
noncomputable def Aqh : Code := (A8 (bodyOf Tryz.f69)).getD 0 .skip
def A2x : Lay := W1 4000
def B6u : Lay := { keys := [3, 4, 10], ks := [.p 5 0 0 0, .p 6 0 0 0, kKn], bs := [(5, 38, kSo), (6, 38, kSo)], n := 233, nx := 4000, marks := [] }
def Abn : XE → Lay := fun e => match e with | .ret => W3 | _ => B6u
theorem Ay2 (e : XE) : A2x.nx ≤ (Abn e).nx := by cases e <;> first | exact Nat.le_refl _ | exact (by decide : (4000 : Nat) ≤ 12000)
abbrev YR4 : Type := Gj.T → Option (MK ⊕ Int)
def Bdg : St → Tree (XE × St) := A9 (Kq 12 5000) (E_k 5000) (Bu [.ret, .exit 2] A0k (Tu 12 5000))
def Bdh : St → Tree (XE × St) := A9 (Kq 15 6000) (E_k 6000) (Bu [.exit 4] A0l (Tu 15 6000))
def Bdi : St → Tree (XE × St) := A9 (Kq 19 9000) (E_k 9000) (Bu [.ret, .exit 6] A0m (Tu 19 9000))
noncomputable def Bhv (Y : YR4) : Ctx := Kj Tryz.prog Ab8 [(119, Tryz.f119)] [] [(63, Abl Y)]
theorem Ay3 {Y : YR4} (h : Ax Tryz.prog 63 (Abl Y)) : CtxOk (Bhv Y) := D8 Ab Air (fns_cons is_bA A2) G5 (fun p hp => by
 rw [List.mem_singleton] at hp; subst hp; exact ⟨is_bz.plain, h⟩)
def Bdj : Ib := fun k => bif Nat.beq k 12 then some Bdg else bif Nat.beq k 20 then some Bdh else bif Nat.beq k 32 then some Bdi else none
theorem Aqi : A8 Aqh = [Afo, Afp, A6e, A6f] := by kernel_rfl
theorem B6v : keyOf Afo = 12 := by kernel_rfl
theorem B6w : keyOf Afp = 20 := by kernel_rfl
theorem B6x : keyOf A6e = 32 := by kernel_rfl
abbrev T0 := Tree (A2x.T ⊕ A1 Abn)
def Oa (c : RT) (s : S2) : A2x.T := (((), (), (), c.ps, s.2.2, c.st, ()), bR c s)
def B2r (g : A2x.T) : (Kq 12 5000).T := (((), (), (), g.1.2.2.2.1, g.1.2.2.2.2.1, g.1.2.2.2.2.2.1, 0, ()), g.2)
def B2s (r : (W1 5000).T) : (Kq 15 6000).T := (((), (), (), r.1.2.2.2.1, r.1.2.2.2.2.1, r.1.2.2.2.2.2.1, 0, ()), r.2)
def Bdk (r : (W1 6000).T) : Gj.T := (((lwG r.2.1, blX r.2.1, Fg r.2.1, ()), r.2.2.1, r.2.2.1.2.2.2.2.1, r.1.2.2.2.2.2.1, ()), ())
def B2t (r : (W1 6000).T) (a : MK) : (Kq 19 9000).T := (((), (), (), r.1.2.2.2.1, r.1.2.2.2.2.1 ++ a.2, r.1.2.2.2.2.2.1, 0, ()), (r.2.1, (a.1, r.2.2.1.2), r.2.2.2.1, ()))
def Bdl (r : (W1 9000).T) : A2x.T := (((), (), (), r.1.2.2.2.1, r.1.2.2.2.2.1, W64 (r.1.2.2.2.2.2.1 + 1), ()), r.2)
def B2u (e : Int) : T0 := .leaf (.inr ⟨.ret, (((), [], e, ()), (r0, ()))⟩)
def B2v (r : W3.T) : T0 := .leaf (.inr ⟨.ret, r⟩)
def B2w (y : Option (A1 (E_k 9000))) : T0 := bif isE .ret y then B2v (B7 .ret y) else bif isE (.exit 6) y then .leaf (.inl (Bdl (B7 (.exit 6) y))) else .fail
def B2x (r : (W1 6000).T) (a : MK) : T0 := aoT (r.1.2.2.2.2.1 : Kns) a.2 40 (B2w (iter A0m (Tu 19 9000 (B2t r a)) (B2t r a)))
def A6r (Y : YR4) (y : Option (A1 (E_k 6000))) : T0 := bif isE (.exit 4) y then thL (Y (Bdk (B7 (.exit 4) y))) ([], []) B2u (B2x (B7 (.exit 4) y)) esR else .fail
def Aqj (Y : YR4) (y : Option (A1 (E_k 5000))) : T0 := bif isE .ret y then B2v (B7 .ret y) else bif isE (.exit 2) y then A6r Y (iter A0l (Tu 15 6000 (B2s (B7 (.exit 2) y))) (B2s (B7 (.exit 2) y))) else .fail
def A6s (Y : YR4) (g : A2x.T) : T0 := bif decide (g.1.2.2.2.2.2.1 ≤ 16) then Aqj Y (iter A0k (Tu 12 5000 (B2r g)) (B2r g)) else .leaf (.inr ⟨.exit 0, (((), (), g.1.2.2.2.2.1, ()), g.2.2)⟩)
def B2y (_ : A2x.T) : Nat := 17
def Aqk (Y : YR4) : St → Tree (XE × St) := A9 A2x Abn (Bu [.ret, .exit 0] (A6s Y) B2y)
theorem Bhw {Y : YR4} (h : Ax Tryz.prog 63 (Abl Y)) : Ae Tryz.prog 69 Aqh (Aqk Y) := N4 (Ay3 h) 7 _ Bdj (fun d hd f hf => by
  rw [Aqi] at hd
  simp only [List.mem_cons, List.not_mem_nil, or_false] at hd
  rcases hd with rfl | rfl | rfl | rfl
  ·rw [B6v] at hf; cases hf; exact Bhi
  ·rw [B6w] at hf; cases hf; exact Bhj
  ·rw [B6x] at hf; cases hf; exact Bhl
  ·rw [Apq] at hf; cases hf) _ _ Ay2 [.ret, .exit 0] (A6s Y) B2y (fun g => by kernel_rfl)
theorem A2y {W : List Int} {P : Prs} {t st : Int} : ∀ (k i : Nat) (ks : Kns), unE (Ag (kpE W P t st) i k ks) = ks ++ unE (Ag (kpE W P t st) i k [])
 | 0, _, ks => (List.append_nil ks).symm
 | k + 1, i, ks => by
  show unE (Ag (kpE W P t st) (i + 1) k (ks ++ [knP t st W (Rl P i)])) = ks ++ unE (Ag (kpE W P t st) (i + 1) k ([] ++ [knP t st W (Rl P i)]))
  rw [A2y k (i + 1) (ks ++ _), A2y k (i + 1) ([] ++ _), List.nil_append, List.append_assoc]
def apK (ks : Kns) : MK ⊕ Int → MK ⊕ Int
 | .inl a => .inl (a.1, ks ++ a.2)
 | .inr e => .inr e
theorem Ay4 {bl : List (TCT A4)} {c : TCT D5} {t st w fl : Int} {n : Nat} {ms : Af} {os : List Bool} {ks : Kns} : seF bl c t st w fl n (ms, os, ks) = apK ks (seF bl c t st w fl n (ms, os, [])) := by
 unfold seF
 show (bif (seS bl c w fl n (ms, os, [])).2.2.1 != 0 then _ else _) = _
 cases (seS bl c w fl n (ms, os, [])).2.2.1 != 0 with
 | true => rfl
 | false =>
  show Sum.inl (scV _ _ _, kpV (seG bl w fl n (ms, os, [])).1 (seS bl c w fl n (ms, os, [])).2.1 t st ks) = Sum.inl (_, ks ++ kpV _ _ t st [])
  unfold kpV
  rw [A2y _ _ ks]
  rfl
def cAt (c : RT) (i : Int) : RT := ⟨c.g, c.z, c.w, c.fl, c.t, c.ps, i⟩
def ctR (c : RT) : CT := ⟨blX c.g, lwG c.g, Fg c.g, c.ps, c.w, c.fl, c.t⟩
def Jv (c : RT) : S2 ⊕ Int → A1 Abn
 | .inl s => ⟨.exit 0, (((), (), s.2.2, ()), ((s.1, s.2.1, c.w, c.fl, c.t, ()), c.z, ()))⟩
 | .inr e => ⟨.ret, (((), [], e, ()), (r0, ()))⟩
def ars (c : RT) (s : S2) : Gj.T := (((lwG c.g, blX c.g, Fg c.g, ()), (s.1, s.2.1, c.w, c.fl, c.t, ()), c.t, c.st, ()), ())
theorem Ay5 {c : RT} {s : S2} {k : Nat} (hn8 : nB c ≤ 8) (hs : Inv2 (nB c) k 0 s) : H0 (ars c s) = some (seF (blX c.g) (Fg c.g) c.t c.st c.w c.fl (nB c) (s.1, s.2.1, [])) := by
 have h : A6p (lwG c.g, blX c.g, Fg c.g, ()) (s.1, s.2.1, c.w, c.fl, c.t, ()) = true := by
  unfold A6p
  simp only [Bool.and_eq_true, decide_eq_true_eq]
  exact ⟨hs.m, hs.o, hn8⟩
 unfold H0
 show (bif A6p (lwG c.g, blX c.g, Fg c.g, ()) (s.1, s.2.1, c.w, c.fl, c.t, ()) then _ else _) = _
 rw [h]
 rfl
theorem B6y {β : Type} {c : Type} {l1 l2 : List c} {b : Nat} {k : Tree β} (h : l1.length + l2.length ≤ 1000000) (hb : b ≤ 48) : aoT l1 l2 b k = k := by
 unfold aoT
 rw [Gi h hb]; rfl
theorem B6z {c : RT} {s : S2} {k : Nat} (hn8 : nB c ≤ 8) (hs : Inv2 (nB c) k 0 s) (hk : k ≤ 890000) (hps : c.ps.length ≤ 1000) (hst : c.st ≤ 16) (hst0 : 0 ≤ c.st) :
  (A6r H0 (some (Z9 4 6000 c s))).run = some (match seF (blX c.g) (Fg c.g) c.t c.st c.w c.fl (nB c) s with
   | .inr e => .inr (Jv c (.inr e))
   | .inl s2 => match buF (blX c.g) (Fg c.g) c.ps c.t c.st c.w c.fl (nB c) (s2.1, s.2.1, s2.2) with
    | .inr e => .inr (Jv c (.inr e))
    | .inl s3 => .inl (Oa (cAt c (c.st + 1)) (s3.1, s.2.1, s3.2))) := by
 have hy := Ay5 hn8 hs
 show (thL (H0 (ars c s)) ([], []) B2u (B2x (B7 (.exit 4) (some (Z9 4 6000 c s)))) esR).run = _
 rw [show seF (blX c.g) (Fg c.g) c.t c.st c.w c.fl (nB c) s = apK s.2.2 (seF (blX c.g) (Fg c.g) c.t c.st c.w c.fl (nB c) (s.1, s.2.1, [])) from Ay4]
 cases h1 : seF (blX c.g) (Fg c.g) c.t c.st c.w c.fl (nB c) (s.1, s.2.1, []) with
 | inr e =>
  rw [h1] at hy
  rw [Aq6 hy (Aqc h1)]
  rfl
 | inl a =>
  rw [h1] at hy
  rw [Aq5 hy]
  have ha := A2o hn8 (k := 0) (s := (s.1, s.2.1, [])) ⟨hs.m, hs.o, Nat.le_refl _⟩ h1
  have hak := ha.k
  have hsk := hs.k
  show (aoT s.2.2 a.2 40 (B2w (iter A0m (nB c + 1) (M2 19 9000 c 0 (a.1, s.2.1, s.2.2 ++ a.2))))).run = some (match buF (blX c.g) (Fg c.g) c.ps c.t c.st c.w c.fl (nB c) (a.1, s.2.1, s.2.2 ++ a.2) with
    | .inr e => .inr (Jv c (.inr e))
    | .inl s3 => .inl (Oa (cAt c (c.st + 1)) (s3.1, s.2.1, s3.2)))
  simp only at hak
  rw [B6y (by omega) (by decide), Bd2 (c := c) (s := (a.1, s.2.1, s.2.2 ++ a.2)) (k0 := k + 64) hn8 ⟨ha.m, hs.o, by simp only [List.length_append]; omega⟩ (by omega) hps]
  rw [A0o (nB c) 0 (a.1, s.2.2 ++ a.2)]
  unfold buF
  simp only
  cases Ag (boE (blX c.g) (Fg c.g) c.ps s.2.1 c.w c.fl c.t c.st) 0 (nB c) (a.1, s.2.2 ++ a.2) with
  | inr e => rfl
  | inl s3 =>
   show (Tree.leaf (.inl (Oa (cAt c (W64 (c.st + 1))) (s3.1, s.2.1, s3.2))) : T0).run = _
   rw [show W64 (c.st + 1) = c.st + 1 from Bv (by omega) (by omega)]
   rfl
def tk2 (k : CT) (st : Int) (s1 : S2) : S2 ⊕ Int := match seF k.bl k.c k.t st k.w k.fl k.bl.length s1 with
 | .inr e => .inr e
 | .inl s2 => match buF k.bl k.c k.ps k.t st k.w k.fl k.bl.length (s2.1, s1.2.1, s2.2) with
  | .inr e => .inr e
  | .inl s3 => .inl (s3.1, s1.2.1, s3.2)
theorem Bdm {k : CT} {i : Nat} {s : S2} {e : Int} (h : mvF k.bl k.l k.t ((i + 1 : Nat) : Int) k.bl.length s = .inr e) : tkE k i s = .inr e := by unfold tkE; rw [h]
theorem Bdn {k : CT} {i : Nat} {s s1 : S2} (h : mvF k.bl k.l k.t ((i + 1 : Nat) : Int) k.bl.length s = .inl s1) : tkE k i s = tk2 k ((i + 1 : Nat) : Int) s1 := by unfold tkE tk2; rw [h]; rfl
theorem Bdo {bl : List (TCT A4)} {l : TCT An} {t st : Int} {n : Nat} {s : S2} {ms : Af} (h : Ag (stE bl s.2.1) 0 n s.1 = .inl ms) : mvF bl l t st n s = Ag (lvE l t st) 0 n (ms, s.2.1, s.2.2) := by unfold mvF; rw [h]
theorem Bdp {bl : List (TCT A4)} {l : TCT An} {t st : Int} {n : Nat} {s : S2} {e : Int} (h : Ag (stE bl s.2.1) 0 n s.1 = .inr e) : mvF bl l t st n s = .inr e := by unfold mvF; rw [h]
theorem Ay6 {c : RT} {s : S2} {k i : Nat} (hi : i < 16) (hn8 : nB c ≤ 8) (hs : Inv2 (nB c) k 0 s) (hk : k ≤ 890000) (hps : c.ps.length ≤ 1000) :
  (A6r H0 (some (Z9 4 6000 (cAt c ((i + 1 : Nat) : Int)) s))).run = some (Vi (fun i s => Oa (cAt c ((i + 1 : Nat) : Int)) s) (Jv c) i (tk2 (ctR c) ((i + 1 : Nat) : Int) s)) := by
 rw [B6z (c := cAt c ((i + 1 : Nat) : Int)) (s := s) (k := k) hn8 hs hk hps (by show ((i + 1 : Nat) : Int) ≤ 16; omega) (by show (0 : Int) ≤ ((i + 1 : Nat) : Int); omega)]
 unfold tk2
 show some (match seF (blX c.g) (Fg c.g) c.t ((i + 1 : Nat) : Int) c.w c.fl (nB c) s with
   | .inr e => (.inr (Jv c (.inr e)) : A2x.T ⊕ A1 Abn)
   | .inl s2 => match buF (blX c.g) (Fg c.g) c.ps c.t ((i + 1 : Nat) : Int) c.w c.fl (nB c) (s2.1, s.2.1, s2.2) with
    | .inr e => .inr (Jv c (.inr e))
    | .inl s3 => .inl (Oa (cAt c (((i + 1 : Nat) : Int) + 1)) (s3.1, s.2.1, s3.2))) = some (Vi _ _ i (match seF (blX c.g) (Fg c.g) c.t ((i + 1 : Nat) : Int) c.w c.fl (nB c) s with
   | .inr e => .inr e
   | .inl s2 => match buF (blX c.g) (Fg c.g) c.ps c.t ((i + 1 : Nat) : Int) c.w c.fl (nB c) (s2.1, s.2.1, s2.2) with
    | .inr e => .inr e
    | .inl s3 => .inl (s3.1, s.2.1, s3.2)))
 cases seF (blX c.g) (Fg c.g) c.t ((i + 1 : Nat) : Int) c.w c.fl (nB c) s with
 | inr e => rfl
 | inl s2 =>
  simp only
  cases buF (blX c.g) (Fg c.g) c.ps c.t ((i + 1 : Nat) : Int) c.w c.fl (nB c) (s2.1, s.2.1, s2.2) with
  | inr e => rfl
  | inl s3 => rfl
theorem Ait {c : RT} {s : S2} {k i : Nat} (hi : i < 16) (hn8 : nB c ≤ 8) (hs : Inv2 (nB c) k 0 s) (hk : k ≤ 880000) (hps : c.ps.length ≤ 1000) :
  (A6s H0 (Oa (cAt c ((i + 1 : Nat) : Int)) s)).run = some (Vi (fun i s => Oa (cAt c ((i + 1 : Nat) : Int)) s) (Jv c) i (tkE (ctR c) i s)) := by
 show Tree.run (bif decide (((i + 1 : Nat) : Int) ≤ 16) then Aqj H0 (iter A0k (nB (cAt c ((i + 1 : Nat) : Int)) + 1) (M2 12 5000 (cAt c ((i + 1 : Nat) : Int)) 0 s)) else _) = _
 rw [decide_eq_true (show ((i + 1 : Nat) : Int) ≤ 16 by omega), cond_true, Bcz (c := cAt c ((i + 1 : Nat) : Int)) hn8 hs]
 show Tree.run (Aqj H0 (some (A2u (cAt c ((i + 1 : Nat) : Int)) (Ag (A6i (blX c.g)) 0 (nB c) (s.1, s.2.1, s.2.2))))) = _
 rw [A0n]
 cases h1 : Ag (stE (blX c.g) s.2.1) 0 (nB c) s.1 with
 | inr e =>
  rw [Bdm (k := ctR c) (e := e) (Bdp h1)]
  rfl
 | inl ms =>
  have hm : ms.length = nB c := B8 (n := nB c) (Inv := fun _ (s : Af) => s.length = nB c) Vo (nB c) 0 _ _ (by omega) hs.m h1
  have hsk := hs.k
  show Tree.run (A6r H0 (iter A0l (nB (cAt c ((i + 1 : Nat) : Int)) + 1) (M2 15 6000 (cAt c ((i + 1 : Nat) : Int)) 0 (ms, s.2.1, s.2.2)))) = _
  rw [Bd0 (c := cAt c ((i + 1 : Nat) : Int)) (s := (ms, s.2.1, s.2.2)) (k := k) hn8 (by omega) ⟨hm, hs.o, hsk⟩]
  obtain ⟨s1, hs1⟩ := Na (A2j (l := lwG c.g) (t := c.t) (st := ((i + 1 : Nat) : Int))) (nB c) 0 (ms, s.2.1, s.2.2)
  show Tree.run (A6r H0 (some (Abb (cAt c ((i + 1 : Nat) : Int)) (Ag (lvE (lwG c.g) c.t ((i + 1 : Nat) : Int)) 0 (nB c) (ms, s.2.1, s.2.2))))) = _
  rw [hs1, Bdn (k := ctR c) (s1 := s1) ((Bdo h1).trans hs1)]
  have a := B8 (n := nB c) (Inv := Inv2 (nB c) k) A2i (nB c) 0 (ms, s.2.1, s.2.2) s1 (by omega) ⟨hm, hs.o, hsk⟩ hs1
  have hk1 := a.k
  exact Ay6 (k := k + 8) hi hn8 ⟨a.m, a.o, by have : nB c ≤ 8 := hn8; omega⟩ (by omega) hps
theorem Bdq {c : RT} {s : S2} {k0 : Nat} (hn8 : nB c ≤ 8) (hps : c.ps.length ≤ 1000) (hs : Inv2 (nB c) k0 0 s) (hk0 : k0 ≤ 700000) :
  iter (A6s H0) 17 (Oa (cAt c 1) s) = some (Jv c (Ag (tkE (ctR c)) 0 16 s)) := by
 refine Ef 16 (fun i s => Oa (cAt c ((i + 1 : Nat) : Int)) s) (tkE (ctR c)) (Jv c) (fun i s => Inv2 (nB c) (k0 + i * 8072) 0 s) (fun i s hi hl => Ait hi hn8 hl (by omega) hps) (fun i s s' hi hl h => U6 (k := ctR c) (k0 := k0) (m := 16) hn8 hps i s s' hi hl h) (fun s hl => ?_) 16 0 s (by omega) ⟨hs.m, hs.o, by have := hs.k; omega⟩
 rfl
def H5 : FLay := { ks := [.d cGr, .ag kSo], bs := [], nx := 2 }
theorem Aiu (b : Bool) : 2 ≤ (M3 b).nx := by cases b <;> exact (by decide : (2 : Nat) ≤ 1000)
def Aql (_ : Ac) (args : List AV) : Option (List Nat) := match args with
 | [_, .agg cs] => some (Aif cs)
 | _ => none
def A0s (x : H5.T) : Option (Af ⊕ Int) := Abm ((x.1.1, x.1.2.1, ()), ())
def Abo (x : H5.T) (a : Af) (k : (M3 true).T → TRW) : TRW := match x.1.2.1 with
 | (_, os, w, fl, t, _) => k (((a, os, w, fl, t, ()), 0, ()), ())
def Aft (x : H5.T) (a : Af) : (M3 true).T := (((a, x.1.2.1.2), 0, ()), ())
theorem Aiv (x : H5.T) (a : Af) (k : (M3 true).T → TRW) : Abo x a k = k (Aft x a) := rfl
theorem Bdr (x : H5.T) : H8 Aqf (C4 Aqf 6) 27 (ofKs H5.ks x.1 H5.nx) (H5.lay.hp x) (H5.lay.of x).nx (Ki M3) = Ay1 x.1.1 x.1.2.1 := by kernel_rfl
abbrev B2z (Y : H5.T → Option (Af ⊕ Int)) : SPf := Gr Aql H5 M3 (Afq Y Abo erW [4] [])
theorem B70 : Ax Tryz.prog 27 (B2z A0s) := Afr Aqg 6 Aiu A0s Abo Aft Aiv erW [4] _ (fun x => Ay1 x.1.1 x.1.2.1) Bdr fun x _ _ h => B6t (x := ((x.1.1, x.1.2.1, ()), ())) h
def I1 : FLay := { ks := [.d cGr, .ag kSo], bs := [], nx := 2 }
def Bds : FLay := { ks := [.ag kSo, kKn, .d cI], bs := [], nx := 1000 }
def Q3 (b : Bool) : FLay := bif b then Bds else FN
theorem Aiw (b : Bool) : 2 ≤ (Q3 b).nx := by cases b <;> exact (by decide : (2 : Nat) ≤ 1000)
abbrev TRt := Tree (Bl Q3)
def erT (e : Int) : (Q3 true).T := ((([], [], 0, 0, 0, ()), [], e, ()), ())
def B30 (e : Int) : TRt := .leaf ⟨true, erT e⟩
def B31 (s : SKTs kSo) (fl : Int) (ks : Kns) : TRt := .leaf ⟨true, (((s.1, s.2.1, s.2.2.1, fl, W64 (s.2.2.2.2.1 + 1), ()), ks, 0, ()), ())⟩
def Aqm (r : B6u.T) : TRt := bif decide (r.2.1.2.2.2.1 > 0) then B31 r.2.1 (W64 (r.2.1.2.2.2.1 - 1)) r.1.2.2.1 else B31 r.2.1 r.2.1.2.2.2.1 r.1.2.2.1
def Bhx (y : Option (A1 Abn)) : TRt := bif isE .ret y then .leaf ⟨true, (((B7 .ret y).2.1, (B7 .ret y).1.2.1, (B7 .ret y).1.2.2.1, ()), ())⟩ else bif isE (.exit 0) y then Aqm (B7 (.exit 0) y) else .fail
def cT4 (g : TCT cGr) (s : SKTs kSo) : RT := ⟨Ek g, r0, s.2.2.1, s.2.2.2.1, s.2.2.2.2.1, G1 g.1, 1⟩
def Bdt (Y : YR4) (g : TCT cGr) (s : SKTs kSo) (ms : Af) : Option (A1 Abn) := iter (A6s Y) 17 (Oa (cT4 g s) (ms, s.2.1, []))
def Ay7 (Y : YR4) (y : Option (Af ⊕ Int)) (g : TCT cGr) (s : SKTs kSo) : TRt := bif s.2.2.2.2.1 == 4000 then B30 3 else thL y [] B30 (fun ms => szT g.1 (Bhx (Bdt Y g s ms))) [4]
noncomputable def Aqn (Y : YR4) (YW : H5.T → Option (Af ⊕ Int)) : Ctx := Kj Tryz.prog Ab8 [(69, Tryz.f69)] [((69, 9), Aqk Y)] [(63, Abl Y), (27, B2z YW)]
theorem Bdu (Y : YR4) (YW : H5.T → Option (Af ⊕ Int)) (x : I1.T) : H8 (Aqn Y YW) (C4 (Aqn Y YW) 6) 69 (ofKs I1.ks x.1 I1.nx) (I1.lay.hp x) (I1.lay.of x).nx (Ki Q3) = Ay7 Y (YW ((x.1.1, x.1.2.1, ()), ())) x.1.1 x.1.2.1 := by kernel_rfl
end St
theorem T1 {S B : Type} {f g : Nat → S → S ⊕ B} {Inv : Nat → S → Prop} {n : Nat} (h1 : ∀ i s, i < n → Inv i s → f i s = g i s) (h2 : ∀ i s s', i < n → Inv i s → f i s = .inl s' → Inv (i + 1) s') : ∀ (k i : Nat) (s : S), i + k = n → Inv i s → Ag f i k s = Ag g i k s
 | 0, _, _, _, _ => rfl
 | k + 1, i, s, hk, hi => by
  unfold Ag
  rw [← h1 i s (by omega) hi]
  cases hf : f i s with
  | inl s' => exact T1 h1 h2 k (i + 1) s' (by omega) (h2 i s s' (by omega) hi hf)
  | inr b => rfl
theorem A0t {α : Type} {d : α} : ∀ (l : List α) (i j : Nat) (x : α), i < l.length → At (B5 l i x) j d = if j = i then x else At l j d
 | [], i, _, _, h => absurd h (Nat.not_lt_zero i)
 | _ :: l, 0, 0, x, _ => rfl
 | _ :: l, 0, j + 1, x, _ => rfl
 | _ :: l, i + 1, 0, x, _ => by rw [if_neg (by omega)]; rfl
 | _ :: l, i + 1, j + 1, x, h => by
  show At (B5 l i x) j d = _
  rw [A0t l i j x (by simpa using h)]
  by_cases e : j = i
  ·rw [if_pos e, if_pos (by omega)]
  ·rw [if_neg e, if_neg (by omega)]; rfl
namespace St
theorem We {α : Type} {ok : Nat → α → Bool} {d : α} : ∀ (l : List α) (i : Nat), Gy ok i l = true → ∀ j, j < l.length → ok (i + j) (At l j d) = true
 | [], _, _, j, hj => absurd hj (Nat.not_lt_zero j)
 | x :: l, i, h, j, hj => by
  simp only [Gy, Bool.and_eq_true] at h
  cases j with
  | zero => exact h.1
  | succ j =>
   have := We (d := d) l (i + 1) h.2 j (by simpa using hj)
   rw [show i + (j + 1) = i + 1 + j by omega]
   exact this
theorem B71 {x y w g : Int} (hx : 0 ≤ x) (hy : 0 ≤ y) (hxw : x ≤ w) (hyg : y ≤ g) (hw : w ≤ 4194304) (hg : g ≤ 4194304) : fpt x y = true := by
 unfold fpt
 exact decide_eq_true ⟨by omega, by omega, by omega, by omega⟩
theorem B72 {l : TCT An} {p : TCT cPt} (hl : Cn l = 0) (h : onB l p = true) : Gh l p = 0 := by
 have a := An1 hl
 have hw := a.w
 have hg := a.lg
 unfold Gh Pv
 unfold onB inR at h
 simp only [Bool.and_eq_true, decide_eq_true_eq] at h
 rw [hl, B71 h.1.1 h.2.1 h.1.2 h.2.2 hw.2 hg.2]
 show (bif onB l p then 0 else 5 : Int) = 0
 rw [show onB l p = true by unfold onB inR; simp only [Bool.and_eq_true, decide_eq_true_eq]; exact h]
 rfl
def onA (l : TCT An) (os : List Bool) (n : Nat) (ms : Af) : Prop := ms.length = n ∧ ∀ j, j < n → At os j (Aq .b) = false → Gh l (Ai ms j).1 = 0
theorem Aqo {l : TCT An} {os : List Bool} {w fl : Int} {n i : Nat} {s s' : Af} (hi : i < n) (h : onA l os n s) (h2 : slE l os w fl i s = .inl s') : onA l os n s' := by
 unfold slE at h2
 cases h3 : !C1 s os i || El w fl i with
 | true => rw [h3] at h2; cases h2; exact h
 | false =>
  rw [h3] at h2
  simp only [cond_false] at h2
  cases h4 : Gh l (Ai s i).1 != 0 with
  | true => rw [h4] at h2; cases h2
  | false =>
   rw [h4] at h2
   simp only [cond_false] at h2
   cases h5 : (Ls l (Ai s i)).2.1 != 0 with
   | true => rw [h5] at h2; cases h2
   | false =>
    rw [h5] at h2
    cases h2
    refine ⟨by rw [Br]; exact h.1, fun j hj ho => ?_⟩
    unfold Ai
    rw [A0t s i j _ (by rw [h.1]; exact hi)]
    by_cases e : j = i
    ·rw [if_pos e]
     subst e
     exact h.2 j hj ho
    ·rw [if_neg e]; exact h.2 j hj ho
theorem Bdv {l : TCT An} {os : List Bool} {w fl : Int} {n : Nat} {ms : Af} (h : onA l os n ms) : Ag (slE l os w fl) 0 n ms = Ag (srE l os w fl) 0 n ms := by
 refine T1 (n := n) (Inv := fun _ s => onA l os n s) (fun i s hi hl => ?_) (fun i s s' hi hl h2 => Aqo hi hl h2) n 0 ms (by omega) h
 unfold slE srE
 cases h3 : !C1 s os i || El w fl i with
 | true => rfl
 | false =>
  have ho : At os i (Aq .b) = false := by
   rw [Bool.or_eq_false_iff] at h3
   have := h3.1
   unfold C1 at this
   cases hg : At os i (Aq .b) with
   | false => rfl
   | true => rw [hg] at this; cases this
  rw [hl.2 i hi ho]
  rfl
theorem Ay8 {g : TCT cGr} {s : TCT cSt} (h : StaOk g s) : Cn g.1 = 0 := by
 have k := h.gr
 unfold groE at k
 cases h1 : Cn g.1 != 0 with
 | true => rw [h1, cond_true] at k; exact k
 | false => exact bne_eq_false_iff_eq.1 h1
theorem B73 {g : TCT cGr} {s : TCT cSt} (h : StaOk g s) : onA g.1 (osT s) (A3 g).length (msT s) := by
 refine ⟨h.m, fun j hj ho => ?_⟩
 have hm := h.m
 have a := We (d := Aq Aj) (msT s) 0 h.ok j (by omega)
 rw [Nat.zero_add] at a
 unfold okS okO at a
 rw [ho] at a
 simp only [Bool.and_eq_true, cond_false] at a
 exact B72 (Ay8 h) a.2
def rtF (k : CT) (s : S2) : S2 ⊕ Int := bif k.t == 4000 then .inr 3 else match Ag (srE k.l s.2.1 k.w k.fl) 0 k.bl.length s.1 with
 | .inr e => .inr e
 | .inl ms => Ag (tkE k) 0 16 (ms, s.2.1, s.2.2)
theorem Bdw {g : TCT cGr} {s : TCT cSt} (h : StaOk g s) : rtF (ctS g s) (msT s, osT s, []) = tkF (ctS g s) (msT s, osT s, []) := by
 unfold rtF tkF
 rw [show Ag (slE (ctS g s).l (osT s) (ctS g s).w (ctS g s).fl) 0 (ctS g s).bl.length (msT s) = Ag (srE (ctS g s).l (osT s) (ctS g s).w (ctS g s).fl) 0 (ctS g s).bl.length (msT s) from Bdv (B73 h)]
 rfl
def flR (fl : Int) : Int := bif decide (fl > 0) then W64 (fl - 1) else fl
theorem B74 {fl : Int} (h0 : 0 ≤ fl) (h8 : fl ≤ 8) : flR fl = max 0 (W64 (fl - 1)) := by
 unfold flR
 rw [Bv (n := fl - 1) (by omega) (by omega)]
 by_cases h : fl > 0
 ·rw [decide_eq_true h]; show fl - 1 = _; omega
 ·rw [decide_eq_false h]; show fl = _; omega
def Kr (g : TCT cGr) (s : SKTs kSo) : Option (S2 ⊕ Int) := bif A2w g s then some (rtF (ctS g s) (s.1, s.2.1, [])) else none
def A2z (s : SKTs kSo) (r : S2) : (Q3 true).T := (((r.1, r.2.1, s.2.2.1, flR s.2.2.2.1, W64 (s.2.2.2.2.1 + 1), ()), r.2.2, 0, ()), ())
def toR (s : SKTs kSo) : S2 ⊕ Int → Bl Q3
 | .inl r => ⟨true, A2z s r⟩
 | .inr e => ⟨true, erT e⟩
theorem B75 {c : RT} {s : S2} {ms : Af} {os : List Bool} : (Aqm ((((), (), s.2.2, ()), ((s.1, s.2.1, c.w, c.fl, c.t, ()), c.z, ())) : B6u.T)).run = some ⟨true, A2z (ms, os, c.w, c.fl, c.t, ()) s⟩ := by
 unfold Aqm A2z flR
 show (bif decide (c.fl > 0) then _ else _ : TRt).run = some (⟨true, (((s.1, s.2.1, c.w, (bif decide (c.fl > 0) then W64 (c.fl - 1) else c.fl), W64 (c.t + 1), ()), s.2.2, 0, ()), ())⟩ : Bl Q3)
 cases decide (c.fl > 0) <;> rfl
theorem B76 {g : TCT cGr} {s : SKTs kSo} {z : S2 ⊕ Int} (h : Kr g s = some z) : (Ay7 H0 (Abm ((g, s, ()), ())) g s).run = some (toR s z) := by
 unfold Kr at h
 cases ho : A2w g s with
 | false => rw [ho] at h; cases h
 | true =>
  rw [ho] at h
  cases h
  have hw : Abm ((g, s, ()), ()) = some (Ag (srE g.1 s.2.1 s.2.2.1 s.2.2.2.1) 0 (A3 g).length s.1) := by
   unfold Abm
   show (bif A2w g s then _ else _) = _
   rw [ho]
   rfl
  unfold A2w at ho
  simp only [Bool.and_eq_true, decide_eq_true_eq] at ho
  obtain ⟨hsz, hm, hos, hn8⟩ := ho
  have hm' : (s.1 : Af).length = (A3 g).length := hm
  have hos' : (s.2.1 : List Bool).length = (A3 g).length := hos
  unfold Ay7
  show _ = some (toR s (bif s.2.2.2.2.1 == 4000 then .inr 3 else match Ag (srE g.1 s.2.1 s.2.2.1 s.2.2.2.1) 0 (A3 g).length s.1 with
   | .inr e => .inr e
   | .inl ms => Ag (tkE (ctS g s)) 0 16 (ms, s.2.1, [])))
  cases s.2.2.2.2.1 == 4000 with
  | true => rfl
  | false =>
   simp only [cond_false]
   cases hf : Ag (srE g.1 s.2.1 s.2.2.1 s.2.2.2.1) 0 (A3 g).length s.1 with
   | inr e =>
    rw [hf] at hw
    obtain ⟨j, u, hj⟩ := G6 _ _ _ _ hf
    rw [Aq6 hw (by rw [Afs hj]; exact List.mem_singleton.2 rfl)]
    rfl
   | inl ms =>
    rw [hf] at hw
    rw [Aq5 hw, Bz hsz]
    have hms : ms.length = (A3 g).length := B8 (n := (A3 g).length) (Inv := fun _ (s : Af) => s.length = (A3 g).length) Aq3 (A3 g).length 0 _ _ (by omega) hm' hf
    have hp := Ov (l := g.1)
    have hy : Bdt H0 g s ms = some (Jv (cT4 g s) (Ag (tkE (ctS g s)) 0 16 (ms, s.2.1, []))) := Bdq (c := cT4 g s) (s := (ms, s.2.1, [])) (k0 := 0) hn8 (by show (G1 g.1).length ≤ 1000; omega) ⟨hms, hos', Nat.le_refl _⟩ (by omega)
    rw [hy]
    show _ = some (toR s (Ag (tkE (ctS g s)) 0 16 (ms, s.2.1, [])))
    cases Ag (tkE (ctS g s)) 0 16 (ms, s.2.1, []) with
    | inl r => exact B75 (c := cT4 g s) (ms := s.1) (os := s.2.1)
    | inr e => rfl
def B32 (s : SKTs kSo) (r : S2) (k : (Q3 true).T → TRt) : TRt := match s with
 | (_, _, w, fl, t, _) => k (((r.1, r.2.1, w, flR fl, W64 (t + 1), ()), r.2.2, 0, ()), ())
abbrev Bdx (Y : TCT cGr → SKTs kSo → Option (S2 ⊕ Int)) : SPf := Gr Aql I1 Q3 (Apu (fun x : I1.T => Y x.1.1 x.1.2.1) (fun x => B32 x.1.2.1) erT ([], [], []))
theorem Aix {f g : Nat} {s t : SPf} (hf : Plain Tryz.prog f) (h1 : Ax Tryz.prog f s) (hg : Plain Tryz.prog g) (h2 : Ax Tryz.prog g t) : ∀ p ∈ [(f, s), (g, t)], Plain Tryz.prog p.1 ∧ Ax Tryz.prog p.1 p.2 := fun p hp => by
 simp only [List.mem_cons, List.not_mem_nil, or_false] at hp
 rcases hp with rfl | rfl
 ·exact ⟨hf, h1⟩
 ·exact ⟨hg, h2⟩
theorem Aqp {Y : YR4} (h : Ax Tryz.prog 63 (Abl Y)) : ∀ q ∈ [(69, Tryz.f69)], ∀ d ∈ A8 (bodyOf q.2), ∀ g, Bn [((69, 9), Aqk Y)] q.1 (keyOf d) = some g → Ae Tryz.prog q.1 d g :=
 Ap (Fm (ds := [Aqh, Afo, Afp, A6e, A6f]) (by kernel_rfl) ⟨Ec (k := 9) (by kernel_rfl) rfl (Bhw h), A2h (k := 12) (by kernel_rfl) rfl, A2h (k := 20) (by kernel_rfl) rfl, A2h (k := 32) (by kernel_rfl) rfl, A2h (k := 35) (by kernel_rfl) rfl, trivial⟩) Ez
theorem Aqq : CtxOk (Aqn H0 A0s) := D8 Ab Air (fns_cons is_bx A2) (Aqp Aqd) (Aix is_bz.plain Aqd is_bw.plain B70)
theorem B77 : Ax Tryz.prog 69 (Bdx Kr) := Axx Aqq 6 Aiw (fun x : I1.T => Kr x.1.1 x.1.2.1) (fun x : I1.T => B32 x.1.2.1) (fun x : I1.T => A2z x.1.2.1) (fun _ _ _ => rfl) erT ([], [], []) (fun x : I1.T => Ay7 H0 (A0s ((x.1.1, x.1.2.1, ()), ())) x.1.1 x.1.2.1) (Bdu H0 A0s) fun (x : I1.T) z _ h => by
 rw [show A0s ((x.1.1, x.1.2.1, ()), ()) = Abm ((x.1.1, x.1.2.1, ()), ()) from rfl, B76 h]
 cases z <;> rfl
abbrev Ay9 : List (Nat × PureT) := (26, A0e) :: Ab8
theorem B78 : By Tryz.prog Ay9 := A0 is_a1.plain Vh Air
theorem Aya {n a b c : Int} (h : (decide (a < 0) || (decide (a ≥ n) || (decide (b < 0) || (decide (b > 8) || (decide (c < 0) || decide (c > 4000)))))) = false) : (0 ≤ a ∧ a < n) ∧ (0 ≤ b ∧ b ≤ 8) ∧ (0 ≤ c ∧ c ≤ 4000) := by
 simp only [Bool.or_eq_false_iff, decide_eq_false_iff_not] at h
 omega
theorem Aqr {n : Int} {s : TCT cSt} (h : A5t n s = false) : (0 ≤ s.2.2.1 ∧ s.2.2.1 < n) ∧ (0 ≤ s.2.2.2.1 ∧ s.2.2.2.1 ≤ 8) ∧ (0 ≤ s.2.2.2.2.1 ∧ s.2.2.2.2.1 ≤ 4000) := Aya h
end St
end V
end Go.Proofs.YtkiaifmbbnnliaaGreat
