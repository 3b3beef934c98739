import Derived.Test.YtkiaifmbbnnliaaGreatCt
namespace Go.Proofs.YtkiaifmbbnnliaaGreat
open Go.RowKit
namespace V
def finYe {L : FLay} {E : Bool → FLay} {A : Type} (Y : L.T → Option (A ⊕ Int)) (mk : L.T → A → ((E true).T → Tree (LeftF E)) → Tree (LeftF E)) (er : Int → (E true).T) (d : A) (g : L.T) : Tree (LeftF E) :=
  .br (isL (Y g)) (mk g (gL d (Y g)) fun y => .leaf ⟨true, y⟩) (.br (isR (Y g)) (.leaf ⟨true, er (gR 0 (Y g))⟩) .fail)
theorem fspecYe {X : Ctx} (hX : CtxOk X) {f : FuncId} (m : Nat) {probe : Heap → List AV → Option (List Nat)} {L : FLay} {E : Bool → FLay} (hE : ∀ b, L.nx ≤ (E b).nx) {A : Type} (Y : L.T → Option (A ⊕ Int)) (mk : L.T → A → ((E true).T → Tree (LeftF E)) → Tree (LeftF E)) (mk0 : L.T → A → (E true).T) (hmk : ∀ g a k, mk g a k = k (mk0 g a)) (er : Int → (E true).T) (d : A) (T : L.T → Tree (LeftF E))
    (he : ∀ g, evBody X (evFn X m) f (ofKs L.ks g.1 L.nx) (L.lay.hp g) (L.lay.of g).nx (foutK E) = T g)
    (h : ∀ g z, L.lay.WF g → Y g = some z → (T g).run = some (match z with
      | .inl a => ⟨true, mk0 g a⟩
      | .inr e => ⟨true, er e⟩)) : SpecOk X.P f (fspec probe L E (finYe Y mk er d)) :=
  fspec_ok hX m hE fun g R hw hf => by
    rw [he]
    unfold finYe at hf
    obtain ⟨h1, h2⟩ := hf
    cases hY : Y g with
    | none => rw [hY] at h2; exact ((h2 rfl).2 rfl).elim
    | some z =>
      have hz := h g z hw hY
      cases z with
      | inl a =>
        rw [hY, hmk] at h1
        exact sat_loose4 (Tree.sat_run hz (h1 rfl)) fun x hx _ => hx
      | inr e =>
        rw [hY] at h2
        exact sat_loose4 (Tree.sat_run hz ((h2 rfl).1 rfl)) fun x hx _ => hx
namespace St
noncomputable def lb_q1 : Code := (loopsOf (bodyOf Tryz.f63)).getD 0 .skip
noncomputable def lb_q2 : Code := (loopsOf (bodyOf Tryz.f63)).getD 1 .skip
noncomputable def lb_q3 : Code := (loopsOf (bodyOf Tryz.f63)).getD 2 .skip
abbrev bsS4 : List BK := [(1002, 34, kGr), (1003, 38, kSo), (1004, 38, kSt)]
def L_q1 : Lay := { keys := [2, 3, 4, 5, 8, 11, 12, 13, 14], ks := [.d cI, .d cI, .p 1002 0 0 0, .p 1003 0 0 0, .p 1004 0 0 0, kI, kBa, kMo, .d cI], bs := bsS4, n := 110, nx := 3000, marks := [] }
def R_q1 : Lay := { keys := [2, 3, 4, 5, 8, 11, 12, 13], ks := [.d cI, .d cI, .p 1002 0 0 0, .p 1003 0 0 0, .p 1004 0 0 0, kI, kBa, kMo], bs := bsS4, n := 110, nx := 3000, marks := [] }
def E_q1 : XE → Lay := fun _ => R_q1
def cQ (g : SKTs kGr) (z : SKTs kSt) (w fl t : Int) : RT := ⟨g, z, w, fl, t, [], 0⟩
def hd_q1 (tk sp : Int) (c : RT) (ms : Mots) (os : List Bool) (i : Int) (s : GA) : L_q1.T := ((tk, sp, (), (), (), s.1, s.2.1, s.2.2, i, ()), bR c (ms, os, []))
def ex_q1 (tk sp : Int) (c : RT) (ms : Mots) (os : List Bool) (s : GA) : Left' E_q1 := ⟨.exit 0, ((tk, sp, (), (), (), s.1, s.2.1, s.2.2, ()), bR c (ms, os, []))⟩
abbrev TQ1 := Tree (L_q1.T ⊕ Left' E_q1)
def add_q1 (tk sp : Int) (c : RT) (ms : Mots) (os : List Bool) (i : Int) (s : GA) : TQ1 := ap8 s.1 i (inN (nB c) i (ap16 s.2.1 (getB (blX c.g) (Int.toNat i)) (inO ms.length i (ap48 s.2.2 (getM ms (Int.toNat i)) (.leaf (.inl (hd_q1 tk sp c ms os (W64 (i + 1)) (ga1 i (getB (blX c.g) (Int.toNat i)) (getM ms (Int.toNat i)) s))))))))
def st_q1' (tk sp : Int) (c : RT) (ms : Mots) (os : List Bool) (i : Int) (s : GA) : TQ1 := bif decide (i < (nB c : Int)) then inO os.length i (bif !getA os (Int.toNat i) (dflt .b) then bif i == c.w then bif !decide (c.fl > 0) then add_q1 tk sp c ms os i s else .leaf (.inl (hd_q1 tk sp c ms os (W64 (i + 1)) s)) else add_q1 tk sp c ms os i s
  else .leaf (.inl (hd_q1 tk sp c ms os (W64 (i + 1)) s))) else .leaf (.inr (ex_q1 tk sp c ms os s))
def st_q1 (g : L_q1.T) : TQ1 := st_q1' g.1.1 g.1.2.1 (cQ g.2.1 g.2.2.2.1 g.2.2.1.2.2.1 g.2.2.1.2.2.2.1 g.2.2.1.2.2.2.2.1) g.2.2.1.1 g.2.2.1.2.1 g.1.2.2.2.2.2.2.2.2.1 (g.1.2.2.2.2.2.1, g.1.2.2.2.2.2.2.1, g.1.2.2.2.2.2.2.2.1)
def fu_q1 (g : L_q1.T) : Nat := (blX g.2.1).length + 1
theorem l_q1 : LoopOk Tryz.prog 63 lb_q1 (loopSum L_q1 E_q1 (finX [.exit 0] st_q1 fu_q1)) := loopOk_x0 X_r4_ok 7 _ L_q1 E_q1 (fun _ => Nat.le_refl _) [.exit 0] st_q1 fu_q1 (fun g => by kernel_rfl)
def res_q1 (tk sp : Int) (c : RT) (ms : Mots) (os : List Bool) (r : GA ⊕ Empty) : Left' E_q1 := ex_q1 tk sp c ms os (unE r)
theorem it_q1 {tk sp : Int} {c : RT} {ms : Mots} {os : List Bool} (hn8 : nB c ≤ 8) (hm : ms.length = nB c) (ho : os.length = nB c) : iter st_q1 (nB c + 1) (hd_q1 tk sp c ms os 0 ([], [], [])) = some (ex_q1 tk sp c ms os (gaV (blX c.g) c.w c.fl (nB c) ms os)) := by
  have hn : (nB c : Int) ≤ maxK .i64 := by show (nB c : Int) ≤ 9223372036854775807; omega
  refine iter_n (nB c) (fun i s => hd_q1 tk sp c ms os i s) (gaE (blX c.g) ms os c.w c.fl) (res_q1 tk sp c ms os) (InvG (nB c)) (fun i s hi hl => ?_) inv_s1 (fun s hl => ?_) (nB c) 0 ([], [], []) (by omega) ⟨rfl, rfl, Nat.le_refl _, fun _ h => absurd h List.not_mem_nil⟩
  · show (st_q1' tk sp c ms os i s).run = _
    have h1 := hl.b
    have h2 := hl.m
    have h3 := hl.k
    unfold st_q1' add_q1 gaE flyB
    rw [decide_eq_true (show (i : Int) < (nB c : Int) by omega), inO_ok (by omega), ap8_ok (by omega), inN_ok (by omega), ap16_ok (by omega), inO_ok (by omega), ap48_ok (by omega), show Int.toNat (i : Int) = i from rfl, W64_succ hi hn]
    cases getA os i (dflt .b) with
    | true => rfl
    | false =>
      cases (i : Int) == c.w with
      | false => rfl
      | true => cases decide (c.fl > 0) <;> rfl
  · show (st_q1' tk sp c ms os (nB c) s).run = _
    unfold st_q1'
    rw [decide_eq_false (show ¬ (nB c : Int) < (nB c : Int) by omega)]
    rfl
abbrev bsU4 : List BK := [(1003, 38, kSo), (1004, 38, kSt)]
def L_q2 : Lay := { keys := [2, 3, 5, 8, 11, 13, 15, 17, 18], ks := [.d cI, .d cI, .p 1003 0 0 0, .p 1004 0 0 0, kI, .d (.sl cMot), .d (.sl cPair), kKn, .d cI], bs := bsU4, n := 110, nx := 4000, marks := [] }
def R_q2 : Lay := { keys := [2, 3, 5, 8, 11, 15, 17], ks := [.d cI, .d cI, .p 1003 0 0 0, .p 1004 0 0 0, kI, .d (.sl cPair), kKn], bs := bsU4, n := 110, nx := 4000, marks := [] }
def E_q2 : XE → Lay := fun _ => R_q2
def bQ (z : SKTs kSt) (q : List Bool × Int × Int × Int × Unit) (ms : Mots) : SKTs kSo × SKTs kSt × Unit := ((ms, q), z, ())
abbrev QT : Type := List Bool × Int × Int × Int × Unit
def hd_q2 (tk sp : Int) (z : SKTs kSt) (q : QT) (W : List Int) (M : Mots) (P : Prs) (o : Kns) (i : Int) (ms : Mots) : L_q2.T := ((tk, sp, (), (), W, M, P, o, i, ()), bQ z q ms)
def ex_q2 (tk sp : Int) (z : SKTs kSt) (q : QT) (W : List Int) (P : Prs) (o : Kns) (ms : Mots) : Left' E_q2 := ⟨.exit 2, ((tk, sp, (), (), W, P, o, ()), bQ z q ms)⟩
abbrev TQ2 := Tree (L_q2.T ⊕ Left' E_q2)
def st_q2' (tk sp : Int) (z : SKTs kSt) (q : QT) (W : List Int) (M : Mots) (P : Prs) (o : Kns) (i : Int) (ms : Mots) : TQ2 := bif decide (i < (W.length : Int)) then inO W.length i (inN M.length i (inO ms.length (getA W (Int.toNat i) (dflt cI)) (
  .leaf (.inl (hd_q2 tk sp z q W M P o (W64 (i + 1)) (setA ms (Int.toNat (getA W (Int.toNat i) (dflt cI))) (getM M (Int.toNat i)))))))) else .leaf (.inr (ex_q2 tk sp z q W P o ms))
def st_q2 (g : L_q2.T) : TQ2 := st_q2' g.1.1 g.1.2.1 g.2.2.1 g.2.1.2 g.1.2.2.2.2.1 g.1.2.2.2.2.2.1 g.1.2.2.2.2.2.2.1 g.1.2.2.2.2.2.2.2.1 g.1.2.2.2.2.2.2.2.2.1 g.2.1.1
def fu_q2 (g : L_q2.T) : Nat := (g.1.2.2.2.2.1 : List Int).length + 1
theorem l_q2 : LoopOk Tryz.prog 63 lb_q2 (loopSum L_q2 E_q2 (finX [.exit 2] st_q2 fu_q2)) := loopOk_x0 X_r4_ok 7 _ L_q2 E_q2 (fun _ => Nat.le_refl _) [.exit 2] st_q2 fu_q2 (fun g => by kernel_rfl)
def res_q2 (tk sp : Int) (z : SKTs kSt) (q : QT) (W : List Int) (P : Prs) (o : Kns) (r : Mots ⊕ Empty) : Left' E_q2 := ex_q2 tk sp z q W P o (unE r)
theorem it_q2 {tk sp : Int} {z : SKTs kSt} {q : QT} {W : List Int} {M : Mots} {P : Prs} {o : Kns} {ms : Mots} {n : Nat} (hW : ∀ w ∈ W, 0 ≤ w ∧ w < (n : Int)) (hM : M.length = W.length) (hms : ms.length = n) (hl : W.length ≤ 1000) :
    iter st_q2 (W.length + 1) (hd_q2 tk sp z q W M P o 0 ms) = some (ex_q2 tk sp z q W P o (scV W M ms)) := by
  have hn : (W.length : Int) ≤ maxK .i64 := by show (W.length : Int) ≤ 9223372036854775807; omega
  refine iter_n W.length (fun i s => hd_q2 tk sp z q W M P o i s) (scE W M) (res_q2 tk sp z q W P o) (fun _ s => s.length = n) (fun i s hi hs => ?_) inv_s2 (fun s hs => ?_) W.length 0 ms (by omega) hms
  · show (st_q2' tk sp z q W M P o i s).run = _
    have hw := hW (getA W i (dflt cI)) (by rw [getA_lt hi]; exact List.getElem_mem hi)
    unfold st_q2'
    rw [decide_eq_true (show (i : Int) < (W.length : Int) by omega), inO_ok (by omega), inN_ok (by omega), show Int.toNat (i : Int) = i from rfl, inO_ok (by omega), W64_succ hi hn]
    rfl
  · show (st_q2' tk sp z q W M P o W.length s).run = _
    unfold st_q2'
    rw [decide_eq_false (show ¬ (W.length : Int) < (W.length : Int) by omega)]
    rfl
def L_q3 : Lay := { keys := [2, 3, 5, 8, 11, 15, 17, 19], ks := [.d cI, .d cI, .p 1003 0 0 0, .p 1004 0 0 0, kI, .d (.sl cPair), kKn, .d cI], bs := bsU4, n := 110, nx := 5000, marks := [] }
def R_q3 : Lay := { keys := [5, 8, 17], ks := [.p 1003 0 0 0, .p 1004 0 0 0, kKn], bs := bsU4, n := 110, nx := 5000, marks := [] }
def E_q3 : XE → Lay := fun _ => R_q3
def hd_q3 (tk sp : Int) (z : SKTs kSt) (q : QT) (ms : Mots) (W : List Int) (P : Prs) (i : Int) (o : Kns) : L_q3.T := ((tk, sp, (), (), W, P, o, i, ()), bQ z q ms)
def ex_q3 (z : SKTs kSt) (q : QT) (ms : Mots) (o : Kns) : Left' E_q3 := ⟨.exit 4, (((), (), o, ()), bQ z q ms)⟩
abbrev TQ3 := Tree (L_q3.T ⊕ Left' E_q3)
def st_q3' (tk sp : Int) (z : SKTs kSt) (q : QT) (ms : Mots) (W : List Int) (P : Prs) (i : Int) (o : Kns) : TQ3 := bif decide (i < (P.length : Int)) then inN P.length i (inO W.length (getP P (Int.toNat i)).1 (inN P.length i (inO W.length (getP P (Int.toNat i)).2.1 (
  appK o (knP tk sp W (getP P (Int.toNat i))) fun o' => .leaf (.inl (hd_q3 tk sp z q ms W P (W64 (i + 1)) o')))))) else .leaf (.inr (ex_q3 z q ms o))
def st_q3 (g : L_q3.T) : TQ3 := st_q3' g.1.1 g.1.2.1 g.2.2.1 g.2.1.2 g.2.1.1 g.1.2.2.2.2.1 g.1.2.2.2.2.2.1 g.1.2.2.2.2.2.2.2.1 g.1.2.2.2.2.2.2.1
def fu_q3 (g : L_q3.T) : Nat := (g.1.2.2.2.2.2.1 : Prs).length + 1
theorem l_q3 : LoopOk Tryz.prog 63 lb_q3 (loopSum L_q3 E_q3 (finX [.exit 4] st_q3 fu_q3)) := loopOk_x0 X_r4_ok 7 _ L_q3 E_q3 (fun _ => Nat.le_refl _) [.exit 4] st_q3 fu_q3 (fun g => by kernel_rfl)
def res_q3 (z : SKTs kSt) (q : QT) (ms : Mots) (r : Kns ⊕ Empty) : Left' E_q3 := ex_q3 z q ms (unE r)
theorem it_q3 {tk sp : Int} {z : SKTs kSt} {q : QT} {ms : Mots} {W : List Int} {P : Prs} {o : Kns} (hP : ∀ p ∈ P, prOk W.length p) (hk : o.length ≤ 900000) (hl : P.length ≤ 1000) :
    iter st_q3 (P.length + 1) (hd_q3 tk sp z q ms W P 0 o) = some (ex_q3 z q ms (kpV W P tk sp o)) := by
  have hn : (P.length : Int) ≤ maxK .i64 := by show (P.length : Int) ≤ 9223372036854775807; omega
  refine iter_n P.length (fun i s => hd_q3 tk sp z q ms W P i s) (kpE W P tk sp) (res_q3 z q ms) (fun i s => s.length = o.length + i) (fun i s hi hs => ?_) inv_s3 (fun s hs => ?_) P.length 0 o (by omega) rfl
  · show (st_q3' tk sp z q ms W P i s).run = _
    have hp := hP (getP P i) (by unfold getP; rw [getA_lt hi]; exact List.getElem_mem hi)
    unfold st_q3' appK
    rw [decide_eq_true (show (i : Int) < (P.length : Int) by omega), inN_ok (by omega), show Int.toNat (i : Int) = i from rfl, inO_ok ⟨hp.1, Int.lt_trans hp.2.1 hp.2.2⟩, inN_ok (by omega), inO_ok ⟨Int.le_trans hp.1 (Int.le_of_lt hp.2.1), hp.2.2⟩, app_ok (by simp; omega) (by decide), W64_succ hi hn]
    rfl
  · show (st_q3' tk sp z q ms W P P.length s).run = _
    unfold st_q3'
    rw [decide_eq_false (show ¬ (P.length : Int) < (P.length : Int) by omega)]
    rfl
noncomputable def lb_rw : Code := (loopsOf (bodyOf Tryz.f27)).getD 0 .skip
abbrev bsX4 : List BK := [(5, 38, kSo), (6, 38, kSo)]
abbrev bsW4 : List BK := (4, 34, kGr) :: bsX4
def L_rw : Lay := { keys := [2, 3, 4, 6], ks := [.p 4 0 0 0, .p 5 0 0 0, .p 6 0 0 0, .d cI], bs := bsW4, n := 90, nx := 3000, marks := [] }
def R_rw : Lay := { keys := [3, 4], ks := [.p 5 0 0 0, .p 6 0 0 0], bs := bsX4, n := 90, nx := 3000, marks := [] }
def Rf_rw : Lay := { keys := [4, 5], ks := [.p 6 0 0 0, .d cI], bs := [(6, 38, kSo)], n := 90, nx := 3000, marks := [] }
def E_rw : XE → Lay := fun e => match e with | .ret => Rf_rw | _ => R_rw
theorem E_rw_nx (e : XE) : L_rw.nx ≤ (E_rw e).nx := by cases e <;> exact Nat.le_refl _
def hd_rw (c : RT) (os : List Bool) (i : Int) (ms : Mots) : L_rw.T := (((), (), (), i, ()), bR c (ms, os, []))
def ex_rw (c : RT) (os : List Bool) (ms : Mots) : Left' E_rw := ⟨.exit 0, (((), (), ()), ((ms, os, c.w, c.fl, c.t, ()), c.z, ()))⟩
def rt_rw : Left' E_rw := ⟨.ret, (((), 4, ()), (r0, ()))⟩
abbrev TRw := Tree (L_rw.T ⊕ Left' E_rw)
def szX {β : Type} (g : SKTs kGr) (k : Tree β) : Tree β := bif decide ((g.1.size : Int) ≤ maxK .i64) then k else .fail
def bd_rw (c : RT) (os : List Bool) (i : Int) (ms : Mots) : TRw := szX c.g (bif (slwV (lwG c.g) (getM ms (Int.toNat i))).2.1 != 0 then .leaf (.inr rt_rw) else inO ms.length i (.leaf (.inl (hd_rw c os (W64 (i + 1)) (setA ms (Int.toNat i) (slwM (lwG c.g) (getM ms (Int.toNat i))))))))
def st_rw' (c : RT) (os : List Bool) (i : Int) (ms : Mots) : TRw := bif decide (i < (nB c : Int)) then inO ms.length i (inO os.length i (bif getA os (Int.toNat i) (dflt .b) then .leaf (.inl (hd_rw c os (W64 (i + 1)) ms)) else
  bif stillM (getM ms (Int.toNat i)) then .leaf (.inl (hd_rw c os (W64 (i + 1)) ms)) else bif i == c.w then bif decide (c.fl > 0) then .leaf (.inl (hd_rw c os (W64 (i + 1)) ms)) else bd_rw c os i ms else bd_rw c os i ms)) else .leaf (.inr (ex_rw c os ms))
def st_rw (g : L_rw.T) : TRw := st_rw' (cQ g.2.1 g.2.2.2.1 g.2.2.1.2.2.1 g.2.2.1.2.2.2.1 g.2.2.1.2.2.2.2.1) g.2.2.1.2.1 g.1.2.2.2.1 g.2.2.1.1
def fu_rw (g : L_rw.T) : Nat := (blX g.2.1).length + 1
theorem l_rw : LoopOk Tryz.prog 27 lb_rw (loopSum L_rw E_rw (finX [.ret, .exit 0] st_rw fu_rw)) := loopOk_x0 X_r4_ok 7 _ L_rw E_rw E_rw_nx [.ret, .exit 0] st_rw fu_rw (fun g => by kernel_rfl)
def srE (l : TCT cLawn) (os : List Bool) (w fl : Int) (i : Nat) (ms : Mots) : Mots ⊕ Int :=
  bif !rollB ms os i || flyB w fl i then .inl ms else bif (slwV l (getM ms i)).2.1 != 0 then .inr 4 else .inl (setA ms i (slwM l (getM ms i)))
def res_rw (c : RT) (os : List Bool) : Mots ⊕ Int → Left' E_rw
  | .inl ms => ex_rw c os ms
  | .inr _ => rt_rw
theorem inv_rw {l : TCT cLawn} {os : List Bool} {w fl : Int} {n : Nat} (i : Nat) (s s' : Mots) (_ : i < n) (hi : s.length = n) (h : srE l os w fl i s = .inl s') : s'.length = n := by
  unfold srE at h
  cases h1 : !rollB s os i || flyB w fl i with
  | true => rw [h1] at h; cases h; exact hi
  | false =>
    rw [h1] at h
    cases h3 : (slwV l (getM s i)).2.1 != 0 with
    | true => rw [h3] at h; cases h
    | false => rw [h3] at h; cases h; rw [setA_len]; exact hi
theorem it_rw {c : RT} {os : List Bool} {ms : Mots} (hsz : (c.g.1.size : Int) ≤ maxK .i64) (hn8 : nB c ≤ 8) (hm : ms.length = nB c) (ho : os.length = nB c) : iter st_rw (nB c + 1) (hd_rw c os 0 ms) = some (res_rw c os (foldN (srE (lwG c.g) os c.w c.fl) 0 (nB c) ms)) := by
  have hn : (nB c : Int) ≤ maxK .i64 := by show (nB c : Int) ≤ 9223372036854775807; omega
  refine iter_n (nB c) (fun i s => hd_rw c os i s) (srE (lwG c.g) os c.w c.fl) (res_rw c os) (fun _ s => s.length = nB c) (fun i s hi hl => ?_) inv_rw (fun s hl => ?_) (nB c) 0 ms (by omega) hm
  · show (st_rw' c os i s).run = _
    unfold st_rw' bd_rw srE rollB flyB szX
    rw [decide_eq_true (show (i : Int) < (nB c : Int) by omega), inO_ok (by omega), inO_ok (by omega), inO_ok (by omega), decide_eq_true hsz, show Int.toNat (i : Int) = i from rfl, W64_succ hi hn]
    show Tree.run (bif getA os i (dflt .b) then _ else bif stillM (getM s i) then _ else _ : TRw) = some (stepN (fun i s => hd_rw c os (i : Nat) s) (res_rw c os) i (bif !(!getA os i (dflt .b) && !stillM (getM s i)) || _ then .inl s else _))
    cases getA os i (dflt .b) with
    | true => rfl
    | false =>
      cases stillM (getM s i) with
      | true => rfl
      | false =>
        simp only [Bool.not_false, Bool.and_self, Bool.not_true, cond_false, Bool.false_or, cond_true]
        cases (i : Int) == c.w with
        | false =>
          simp only [Bool.false_and, cond_false]
          cases (slwV (lwG c.g) (getM s i)).2.1 != 0 <;> rfl
        | true =>
          simp only [Bool.true_and, cond_true]
          cases decide (c.fl > 0) with
          | true => rfl
          | false =>
            simp only [cond_false]
            cases (slwV (lwG c.g) (getM s i)).2.1 != 0 <;> rfl
  · show (st_rw' c os (nB c) s).run = _
    unfold st_rw'
    rw [decide_eq_false (show ¬ (nB c : Int) < (nB c : Int) by omega)]
    rfl
end St
end V
end Go.Proofs.YtkiaifmbbnnliaaGreat
