import Derived.Test.YtkiaifmbbnnliaaGreatCt
namespace Go.Proofs.YtkiaifmbbnnliaaGreat
open Go.RowKit
namespace V
namespace St
noncomputable def lb_q1 : Code := (loopsOf (bodyOf Tryz.f63)).getD 0 .skip
noncomputable def lb_q2 : Code := (loopsOf (bodyOf Tryz.f63)).getD 1 .skip
noncomputable def lb_q3 : Code := (loopsOf (bodyOf Tryz.f63)).getD 2 .skip
abbrev bsS4 : List BK := [(1002, 34, kGr), (1003, 38, kSo), (1004, 38, kSt)]
def L_q1 : Lay := { keys := [2, 3, 4, 5, 8, 11, 12, 13, 14], ks := [.d cI, .d cI, .p 1002 0 0 0, .p 1003 0 0 0, .p 1004 0 0 0, kI, kBa, kMo, .d cI], bs := bsS4, n := 110, nx := 3000, marks := [] }
def R_q1 : Lay := { keys := [2, 3, 4, 5, 8, 11, 12, 13], ks := [.d cI, .d cI, .p 1002 0 0 0, .p 1003 0 0 0, .p 1004 0 0 0, kI, kBa, kMo], bs := bsS4, n := 110, nx := 3000, marks := [] }
def E_q1 : XE → Lay := fun _ => R_q1
def cQ (g : SKTs kGr) (z : SKTs kSt) (w fl t : Int) : RT := ⟨g, z, w, fl, t, [], 0⟩
def hd_q1 (tk sp : Int) (c : RT) (ms : Mots) (os : List Bool) (i : Int) (s : GA) : L_q1.T := ((tk, sp, (), (), (), s.1, s.2.1, s.2.2, i, ()), bR c (ms, os, []))
def ex_q1 (tk sp : Int) (c : RT) (ms : Mots) (os : List Bool) (s : GA) : Left' E_q1 := ⟨.exit 0, ((tk, sp, (), (), (), s.1, s.2.1, s.2.2, ()), bR c (ms, os, []))⟩
abbrev TQ1 := Tree (L_q1.T ⊕ Left' E_q1)
def add_q1 (tk sp : Int) (c : RT) (ms : Mots) (os : List Bool) (i : Int) (s : GA) : TQ1 := ap8 s.1 i (inN (nB c) i (ap16 s.2.1 (getB (blX c.g) (Int.toNat i)) (inO ms.length i (ap48 s.2.2 (getM ms (Int.toNat i)) (.leaf (.inl (hd_q1 tk sp c ms os (W64 (i + 1)) (ga1 i (getB (blX c.g) (Int.toNat i)) (getM ms (Int.toNat i)) s))))))))
def st_q1' (tk sp : Int) (c : RT) (ms : Mots) (os : List Bool) (i : Int) (s : GA) : TQ1 := bif decide (i < (nB c : Int)) then inO os.length i (bif !getA os (Int.toNat i) (dflt .b) then bif i == c.w then bif !decide (c.fl > 0) then add_q1 tk sp c ms os i s else .leaf (.inl (hd_q1 tk sp c ms os (W64 (i + 1)) s)) else add_q1 tk sp c ms os i s
  else .leaf (.inl (hd_q1 tk sp c ms os (W64 (i + 1)) s))) else .leaf (.inr (ex_q1 tk sp c ms os s))
def st_q1 (g : L_q1.T) : TQ1 := st_q1' g.1.1 g.1.2.1 (cQ g.2.1 g.2.2.2.1 g.2.2.1.2.2.1 g.2.2.1.2.2.2.1 g.2.2.1.2.2.2.2.1) g.2.2.1.1 g.2.2.1.2.1 g.1.2.2.2.2.2.2.2.2.1 (g.1.2.2.2.2.2.1, g.1.2.2.2.2.2.2.1, g.1.2.2.2.2.2.2.2.1)
def fu_q1 (g : L_q1.T) : Nat := (blX g.2.1).length + 1
theorem l_q1 : LoopOk Tryz.prog 63 lb_q1 (loopSum L_q1 E_q1 (finX [.exit 0] st_q1 fu_q1)) := loopOk_x0 X_r4_ok 7 _ L_q1 E_q1 (fun _ => Nat.le_refl _) [.exit 0] st_q1 fu_q1 (fun g => by kernel_rfl)
def res_q1 (tk sp : Int) (c : RT) (ms : Mots) (os : List Bool) (r : GA ⊕ Empty) : Left' E_q1 := ex_q1 tk sp c ms os (unE r)
theorem it_q1 {tk sp : Int} {c : RT} {ms : Mots} {os : List Bool} (hn8 : nB c ≤ 8) (hm : ms.length = nB c) (ho : os.length = nB c) : iter st_q1 (nB c + 1) (hd_q1 tk sp c ms os 0 ([], [], [])) = some (ex_q1 tk sp c ms os (gaV (blX c.g) c.w c.fl (nB c) ms os)) := by
  have hn : (nB c : Int) ≤ maxK .i64 := by show (nB c : Int) ≤ 9223372036854775807; omega
  refine iter_n (nB c) (fun i s => hd_q1 tk sp c ms os i s) (gaE (blX c.g) ms os c.w c.fl) (res_q1 tk sp c ms os) (InvG (nB c)) (fun i s hi hl => ?_) inv_s1 (fun s hl => ?_) (nB c) 0 ([], [], []) (by omega) ⟨rfl, rfl, Nat.le_refl _, fun _ h => absurd h List.not_mem_nil⟩
  · show (st_q1' tk sp c ms os i s).run = _
    have h1 := hl.b
    have h2 := hl.m
    have h3 := hl.k
    unfold st_q1' add_q1 gaE flyB
    rw [decide_eq_true (show (i : Int) < (nB c : Int) by omega), inO_ok (by omega), ap8_ok (by omega), inN_ok (by omega), ap16_ok (by omega), inO_ok (by omega), ap48_ok (by omega), show Int.toNat (i : Int) = i from rfl, W64_succ hi hn]
    cases getA os i (dflt .b) with
    | true => rfl
    | false =>
      cases (i : Int) == c.w with
      | false => rfl
      | true => cases decide (c.fl > 0) <;> rfl
  · show (st_q1' tk sp c ms os (nB c) s).run = _
    unfold st_q1'
    rw [decide_eq_false (show ¬ (nB c : Int) < (nB c : Int) by omega)]
    rfl
abbrev bsU4 : List BK := [(1003, 38, kSo), (1004, 38, kSt)]
def L_q2 : Lay := { keys := [2, 3, 5, 8, 11, 13, 15, 17, 18], ks := [.d cI, .d cI, .p 1003 0 0 0, .p 1004 0 0 0, kI, .d (.sl cMot), .d (.sl cPair), kKn, .d cI], bs := bsU4, n := 110, nx := 4000, marks := [] }
def R_q2 : Lay := { keys := [2, 3, 5, 8, 11, 15, 17], ks := [.d cI, .d cI, .p 1003 0 0 0, .p 1004 0 0 0, kI, .d (.sl cPair), kKn], bs := bsU4, n := 110, nx := 4000, marks := [] }
def E_q2 : XE → Lay := fun _ => R_q2
def bQ (z : SKTs kSt) (q : List Bool × Int × Int × Int × Unit) (ms : Mots) : SKTs kSo × SKTs kSt × Unit := ((ms, q), z, ())
abbrev QT : Type := List Bool × Int × Int × Int × Unit
def hd_q2 (tk sp : Int) (z : SKTs kSt) (q : QT) (W : List Int) (M : Mots) (P : Prs) (o : Kns) (i : Int) (ms : Mots) : L_q2.T := ((tk, sp, (), (), W, M, P, o, i, ()), bQ z q ms)
def ex_q2 (tk sp : Int) (z : SKTs kSt) (q : QT) (W : List Int) (P : Prs) (o : Kns) (ms : Mots) : Left' E_q2 := ⟨.exit 2, ((tk, sp, (), (), W, P, o, ()), bQ z q ms)⟩
abbrev TQ2 := Tree (L_q2.T ⊕ Left' E_q2)
def st_q2' (tk sp : Int) (z : SKTs kSt) (q : QT) (W : List Int) (M : Mots) (P : Prs) (o : Kns) (i : Int) (ms : Mots) : TQ2 := bif decide (i < (W.length : Int)) then inO W.length i (inN M.length i (inO ms.length (getA W (Int.toNat i) (dflt cI)) (
  .leaf (.inl (hd_q2 tk sp z q W M P o (W64 (i + 1)) (setA ms (Int.toNat (getA W (Int.toNat i) (dflt cI))) (getM M (Int.toNat i)))))))) else .leaf (.inr (ex_q2 tk sp z q W P o ms))
def st_q2 (g : L_q2.T) : TQ2 := st_q2' g.1.1 g.1.2.1 g.2.2.1 g.2.1.2 g.1.2.2.2.2.1 g.1.2.2.2.2.2.1 g.1.2.2.2.2.2.2.1 g.1.2.2.2.2.2.2.2.1 g.1.2.2.2.2.2.2.2.2.1 g.2.1.1
def fu_q2 (g : L_q2.T) : Nat := (g.1.2.2.2.2.1 : List Int).length + 1
theorem l_q2 : LoopOk Tryz.prog 63 lb_q2 (loopSum L_q2 E_q2 (finX [.exit 2] st_q2 fu_q2)) := loopOk_x0 X_r4_ok 7 _ L_q2 E_q2 (fun _ => Nat.le_refl _) [.exit 2] st_q2 fu_q2 (fun g => by kernel_rfl)
def res_q2 (tk sp : Int) (z : SKTs kSt) (q : QT) (W : List Int) (P : Prs) (o : Kns) (r : Mots ⊕ Empty) : Left' E_q2 := ex_q2 tk sp z q W P o (unE r)
theorem it_q2 {tk sp : Int} {z : SKTs kSt} {q : QT} {W : List Int} {M : Mots} {P : Prs} {o : Kns} {ms : Mots} {n : Nat} (hW : ∀ w ∈ W, 0 ≤ w ∧ w < (n : Int)) (hM : M.length = W.length) (hms : ms.length = n) (hl : W.length ≤ 1000) :
    iter st_q2 (W.length + 1) (hd_q2 tk sp z q W M P o 0 ms) = some (ex_q2 tk sp z q W P o (scV W M ms)) := by
  have hn : (W.length : Int) ≤ maxK .i64 := by show (W.length : Int) ≤ 9223372036854775807; omega
  refine iter_n W.length (fun i s => hd_q2 tk sp z q W M P o i s) (scE W M) (res_q2 tk sp z q W P o) (fun _ s => s.length = n) (fun i s hi hs => ?_) inv_s2 (fun s hs => ?_) W.length 0 ms (by omega) hms
  · show (st_q2' tk sp z q W M P o i s).run = _
    have hw := hW (getA W i (dflt cI)) (by rw [getA_lt hi]; exact List.getElem_mem hi)
    unfold st_q2'
    rw [decide_eq_true (show (i : Int) < (W.length : Int) by omega), inO_ok (by omega), inN_ok (by omega), show Int.toNat (i : Int) = i from rfl, inO_ok (by omega), W64_succ hi hn]
    rfl
  · show (st_q2' tk sp z q W M P o W.length s).run = _
    unfold st_q2'
    rw [decide_eq_false (show ¬ (W.length : Int) < (W.length : Int) by omega)]
    rfl
def L_q3 : Lay := { keys := [2, 3, 5, 8, 11, 15, 17, 19], ks := [.d cI, .d cI, .p 1003 0 0 0, .p 1004 0 0 0, kI, .d (.sl cPair), kKn, .d cI], bs := bsU4, n := 110, nx := 5000, marks := [] }
def R_q3 : Lay := { keys := [5, 8, 17], ks := [.p 1003 0 0 0, .p 1004 0 0 0, kKn], bs := bsU4, n := 110, nx := 5000, marks := [] }
def E_q3 : XE → Lay := fun _ => R_q3
def hd_q3 (tk sp : Int) (z : SKTs kSt) (q : QT) (ms : Mots) (W : List Int) (P : Prs) (i : Int) (o : Kns) : L_q3.T := ((tk, sp, (), (), W, P, o, i, ()), bQ z q ms)
def ex_q3 (z : SKTs kSt) (q : QT) (ms : Mots) (o : Kns) : Left' E_q3 := ⟨.exit 4, (((), (), o, ()), bQ z q ms)⟩
abbrev TQ3 := Tree (L_q3.T ⊕ Left' E_q3)
def st_q3' (tk sp : Int) (z : SKTs kSt) (q : QT) (ms : Mots) (W : List Int) (P : Prs) (i : Int) (o : Kns) : TQ3 := bif decide (i < (P.length : Int)) then inN P.length i (inO W.length (getP P (Int.toNat i)).1 (inN P.length i (inO W.length (getP P (Int.toNat i)).2.1 (
  appK o (knP tk sp W (getP P (Int.toNat i))) fun o' => .leaf (.inl (hd_q3 tk sp z q ms W P (W64 (i + 1)) o')))))) else .leaf (.inr (ex_q3 z q ms o))
def st_q3 (g : L_q3.T) : TQ3 := st_q3' g.1.1 g.1.2.1 g.2.2.1 g.2.1.2 g.2.1.1 g.1.2.2.2.2.1 g.1.2.2.2.2.2.1 g.1.2.2.2.2.2.2.2.1 g.1.2.2.2.2.2.2.1
def fu_q3 (g : L_q3.T) : Nat := (g.1.2.2.2.2.2.1 : Prs).length + 1
theorem l_q3 : LoopOk Tryz.prog 63 lb_q3 (loopSum L_q3 E_q3 (finX [.exit 4] st_q3 fu_q3)) := loopOk_x0 X_r4_ok 7 _ L_q3 E_q3 (fun _ => Nat.le_refl _) [.exit 4] st_q3 fu_q3 (fun g => by kernel_rfl)
def res_q3 (z : SKTs kSt) (q : QT) (ms : Mots) (r : Kns ⊕ Empty) : Left' E_q3 := ex_q3 z q ms (unE r)
theorem it_q3 {tk sp : Int} {z : SKTs kSt} {q : QT} {ms : Mots} {W : List Int} {P : Prs} {o : Kns} (hP : ∀ p ∈ P, prOk W.length p) (hk : o.length ≤ 900000) (hl : P.length ≤ 1000) :
    iter st_q3 (P.length + 1) (hd_q3 tk sp z q ms W P 0 o) = some (ex_q3 z q ms (kpV W P tk sp o)) := by
  have hn : (P.length : Int) ≤ maxK .i64 := by show (P.length : Int) ≤ 9223372036854775807; omega
  refine iter_n P.length (fun i s => hd_q3 tk sp z q ms W P i s) (kpE W P tk sp) (res_q3 z q ms) (fun i s => s.length = o.length + i) (fun i s hi hs => ?_) inv_s3 (fun s hs => ?_) P.length 0 o (by omega) rfl
  · show (st_q3' tk sp z q ms W P i s).run = _
    have hp := hP (getP P i) (by unfold getP; rw [getA_lt hi]; exact List.getElem_mem hi)
    unfold st_q3' appK
    rw [decide_eq_true (show (i : Int) < (P.length : Int) by omega), inN_ok (by omega), show Int.toNat (i : Int) = i from rfl, inO_ok ⟨hp.1, Int.lt_trans hp.2.1 hp.2.2⟩, inN_ok (by omega), inO_ok ⟨Int.le_trans hp.1 (Int.le_of_lt hp.2.1), hp.2.2⟩, app_ok (by simp; omega) (by decide), W64_succ hi hn]
    rfl
  · show (st_q3' tk sp z q ms W P P.length s).run = _
    unfold st_q3'
    rw [decide_eq_false (show ¬ (P.length : Int) < (P.length : Int) by omega)]
    rfl
end St
end V
end Go.Proofs.YtkiaifmbbnnliaaGreat
