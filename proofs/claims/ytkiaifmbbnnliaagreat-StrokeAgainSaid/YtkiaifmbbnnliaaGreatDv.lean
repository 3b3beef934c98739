import Derived.Test.YtkiaifmbbnnliaaGreatDu
namespace Go.Proofs.YtkiaifmbbnnliaaGreat
open Go.RowKit
namespace V
namespace St
def bsTr : List BK := [(2, 3, [.d cI]), (3, 63, [.o 24 cPt]), (7, 124, [.f 87 [] [.p 3 0 0 0, .p 2 0 0 0]]), (8, 38, kSn), (9, 43, [.o 57 cKn]), (26, 99, kGo 9), (27, 91, [.p 26 0 0 0]), (28, 44, [.d cI]), (29, 91, [.p 26 0 0 0]), (30, 3, [.d cI])]
def bqTr : List BK := [(3, 63, [.o 24 cPt]), (8, 38, kSn), (9, 43, [.o 57 cKn]), (26, 99, kGo 9), (27, 91, [.p 26 0 0 0]), (28, 44, [.d cI])]
def bpTr : List BK := [(8, 38, kSn), (28, 44, [.d cI])]
noncomputable def L_tr : Lay2 := { keys := [0, 1, 2], ks := [.y 32, .p 29 0 0 0, .p 30 0 0 0], bs := bsTr, ls := [lkR 1], n := 25, nx := 1000, marks := [], ds := [31] }
noncomputable def R_tr : Lay2 := { keys := [], ks := [], bs := bqTr, ls := [lkR 1], n := 25, nx := 1000, marks := [], ds := [31] }
def P_tr : Lay2 := { keys := [], ks := [], bs := bpTr, ls := [], n := 25, nx := 1000, marks := [], ds := [31] }
noncomputable def E_tr : XE → Lay2 := fun e => match e with | .panic _ => P_tr | _ => R_tr
abbrev TrkP : Type := List (TCT cPt)
structure CR where
  a : SKTs kSn
  e : Int
  b : Int
def ctr (g : L_tr.T) : CR := ⟨g.2.1.2.2.2.1, g.2.1.2.2.2.2.2.2.2.1.1, g.2.1.1.1⟩
def xtr (g : L_tr.T) : GB := (g.2.1.2.2.2.2.2.1, (g.2.1.2.2.2.2.1.1, ()), ())
def ttr (g : L_tr.T) : TrkP := g.2.1.2.1.1
def ntr (g : L_tr.T) : Int := g.2.1.2.2.2.2.2.2.2.2.2.1.1
noncomputable def hd_tr (c : CR) (x : GB) (t : TrkP) (n : Int) : L_tr.T := (((), (), (), ()), ((c.b, ()), (t, ()), (((), ((), (), ())), ()), c.a, (x.2.1.1, ()), x.1, ((), ()), (c.e, ()), ((), ()), (n, ()), ()), lsP 1)
noncomputable def mk_tr (c : CR) (r : GB × TrkP) : R_tr.T := ((), ((r.2, ()), c.a, (r.1.2.1.1, ()), r.1.1, ((), ()), (c.e, ()), ()), lsP 1)
def mp_tr (c : CR) : P_tr.T := ((), (c.a, (c.e, ()), ()), ())
abbrev TTr := Tree (L_tr.T ⊕ Left2 E_tr)
noncomputable def ex_tr (c : CR) (r : GB × TrkP) : TTr := .need (selfL [lkR 1]) (.leaf (.inr ⟨.exit 0, mk_tr c r⟩))
noncomputable def pn_tr (c : CR) (e : Int) : TTr := .need (selfL []) (.leaf (.inr ⟨.panic (.ifc 44 (.int .i64 e)), mp_tr c⟩))
def atP (x : GB) (b : Int) : TCT cPt := ((getM (gmM x.1) (Int.toNat b)).1.1, (getM (gmM x.1) (Int.toNat b)).1.2.1, ())
def apP {β : Type} (t : TrkP) (p : TCT cPt) (k : Tree β) : Tree β := bif appOk t [p] 16 then k else .fail
theorem apP_ok {β : Type} {t : TrkP} {p : TCT cPt} {k : Tree β} (h : t.length ≤ 10000) : apP t p k = k := by
  unfold apP
  rw [app_ok (by simp; omega) (by decide)]; rfl
def inM {β : Type} (x : GB) (b : Int) (k : Tree β) : Tree β := inN (gmM x.1).length b (bif decide (Int.toNat b < (gmM x.1).length) then k else .fail)
theorem inM_ok {β : Type} {x : GB} {b : Int} {k : Tree β} {n : Nat} (h : 0 ≤ b ∧ b < (n : Int)) (hl : (gmM x.1).length = n) : inM x b k = k := by
  unfold inM
  rw [inN_ok (by rw [hl]; exact h), decide_eq_true (show Int.toNat b < (gmM x.1).length by omega)]; rfl
noncomputable def st_tr' (Y : Y2) (c : CR) (x : GB) (t : TrkP) (n : Int) : TTr := bif decide (((gk x).length : Int) > 4096) then pn_tr c 6 else inM x c.b (apP t (atP x c.b) (bif decide (n > 0) then bif !stillB (stG x.1) then thY (Y x) z2 (pn_tr c) fun s => .need (selfL [lkR 1]) (.leaf (.inl (hd_tr c (xT x s) (t ++ [atP x c.b]) (W64 (n - 1))))) else ex_tr c (x, t ++ [atP x c.b]) else ex_tr c (x, t ++ [atP x c.b])))
theorem e_tr (Y : Y2) (g : L_tr.T) : evC Tryz.prog (evFn (X_pl Y) 9) (X_pl Y).pures 177 (X_pl Y).u (fun _ => none) lb_tt (L_tr.of g) (stepOut2 L_tr E_tr) = st_tr' Y (ctr g) (xtr g) (ttr g) (ntr g) := by kernel_rfl
def plTr (b : Int) : Nat → GB → TrkP → (GB × TrkP) ⊕ Int
  | 0, x, t => bif decide (((gk x).length : Int) > 4096) then .inr 6 else .inl (x, t ++ [atP x b])
  | n + 1, x, t => bif decide (((gk x).length : Int) > 4096) then .inr 6 else bif !stillB (stG x.1) then match tkF (ctG x.1) (gs x) with
    | .inl s => plTr b n (xT x s) (t ++ [atP x b])
    | .inr e => .inr e
    else .inl (x, t ++ [atP x b])
abbrev YT : Type := GB → Int → Int → TrkP → Option ((GB × TrkP) ⊕ Int)
def Y_tr (x : GB) (b n : Int) (t : TrkP) : Option ((GB × TrkP) ⊕ Int) := bif okRn x n && (decide (0 ≤ b ∧ b < (nBx x.1 : Int)) && decide (t.length ≤ 5000)) then some (plTr b (Int.toNat n) x t) else none
noncomputable def fin_tr (Y : YT) : L_tr.T → Tree (Left2 E_tr) := finY2 44 .i64 (fun g => Y (xtr g) (ctr g).b (ntr g) (ttr g)) (fun g => mk_tr (ctr g)) (fun g _ => mp_tr (ctr g)) (zGB, [])
noncomputable def sm_tr (Y : YT) : St → Tree (XE × St) := loopSum2 L_tr E_tr (fin_tr Y)
theorem rnds_tr (c : CR) {R : Left2 E_tr → Prop} : ∀ (n : Nat) (x : GB) (t : TrkP), n ≤ 4000 → OkGM x.1 → (gmP x.1).length ≤ 1000 → (0 ≤ c.b ∧ c.b < (nBx x.1 : Int)) → t.length + n ≤ 10000 → R (match plTr c.b n x t with
    | .inl r => ⟨.exit 0, mk_tr c r⟩
    | .inr e => ⟨.panic (.ifc 44 (.int .i64 e)), mp_tr c⟩) → Rnds2 L_tr E_tr (fun g => st_tr' Y_ti (ctr g) (xtr g) (ttr g) (ntr g)) R (n + 1) (hd_tr c x t n)
  | 0, x, t, _, h, hp, hb, ht, hR => by
    intro _
    show (st_tr' Y_ti c x t ((0 : Nat) : Int)).sat _
    unfold st_tr'
    unfold plTr at hR
    rw [inM_ok hb h.ms, apP_ok (by omega)]
    cases hm : decide (((gk x).length : Int) > 4096) with
    | true => rw [hm] at hR; exact ⟨trivial, fun _ => hR⟩
    | false =>
      rw [hm] at hR
      exact ⟨selfL_ok _, fun _ => hR⟩
  | n + 1, x, t, hn, h, hp, hb, ht, hR => by
    intro _
    show (st_tr' Y_ti c x t ((n + 1 : Nat) : Int)).sat _
    unfold st_tr'
    unfold plTr at hR
    rw [inM_ok hb h.ms, apP_ok (by omega)]
    cases hm : decide (((gk x).length : Int) > 4096) with
    | true => rw [hm] at hR; exact ⟨trivial, fun _ => hR⟩
    | false =>
      rw [hm] at hR
      simp only [cond_false] at hR ⊢
      rw [decide_eq_true (show ((n + 1 : Nat) : Int) > 0 by omega), cond_true]
      cases hs : stillB (stG x.1) with
      | true => rw [hs] at hR; exact ⟨selfL_ok _, fun _ => hR⟩
      | false =>
        rw [hs] at hR
        simp only [Bool.not_false, cond_true] at hR ⊢
        have hk := of_decide_eq_false hm
        have hy : Y_ti x = some (tkF (ctG x.1) (gs x)) := by
          unfold Y_ti
          rw [show okTk x = true by
            unfold okTk okGP okGB
            simp only [Bool.and_eq_true, decide_eq_true_eq]
            exact ⟨⟨⟨okGM_iff.2 h, by omega⟩, hp⟩, by omega⟩]
          rfl
        cases hf : tkF (ctG x.1) (gs x) with
        | inr e => rw [hf] at hy hR; rw [thY_r hy]; exact ⟨trivial, fun _ => hR⟩
        | inl s =>
          rw [hf] at hy hR
          rw [thY_l hy, show W64 (((n + 1 : Nat) : Int) - 1) = (n : Int) by rw [show ((n + 1 : Nat) : Int) - 1 = (n : Int) by omega]; exact W64_id (by omega) (by omega)]
          exact ⟨selfL_ok _, rnds_tr c n (xT x s) (t ++ [atP x c.b]) (by omega) (okGM_xT h hp hf) hp hb (by rw [List.length_append, List.length_singleton]; omega) hR⟩
theorem l_tr : LoopOk Tryz.prog 177 lb_tt (sm_tr Y_tr) := loopOk_Y2 X_pl_ok 9 _ L_tr E_tr (fun e => by cases e <;> exact Nat.le_refl _) _ _ _ _ _ _ (fun g => st_tr' Y_ti (ctr g) (xtr g) (ttr g) (ntr g)) (e_tr Y_ti) fun g z _ hz => by
  unfold Y_tr at hz
  cases ho : okRn (xtr g) (ntr g) && (decide (0 ≤ (ctr g).b ∧ (ctr g).b < (nBx (xtr g).1 : Int)) && decide ((ttr g).length ≤ 5000)) with
  | false => rw [ho] at hz; cases hz
  | true =>
    rw [ho] at hz
    cases hz
    simp only [Bool.and_eq_true, decide_eq_true_eq] at ho
    obtain ⟨h1, h2, h3⟩ := okRn_iff ho.1
    refine ⟨Int.toNat (ntr g) + 1, fun R hR => ?_⟩
    have := rnds_tr (ctr g) (R := R) (Int.toNat (ntr g)) (xtr g) (ttr g) (by omega) h1 h2 ho.2.1 (by omega) (by
      revert hR
      cases plTr (ctr g).b (Int.toNat (ntr g)) (xtr g) (ttr g) <;> exact id)
    rw [Int.toNat_of_nonneg h3.1] at this
    exact this
end St
end V
end Go.Proofs.YtkiaifmbbnnliaaGreat
