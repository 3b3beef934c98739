import Derived.Test.YtkiaifmbbnnliaaGreatCv
namespace Go.Proofs.YtkiaifmbbnnliaaGreat
open Go.RowKit
namespace V
def aoT {β : Type} {c : Type} (l1 l2 : List c) (b : Nat) (k : Tree β) : Tree β := bif appOk l1 l2 b then k else .fail
namespace St
noncomputable def lb_t0 : Code := (loopsOf (bodyOf Tryz.f69)).getD 0 .skip
def L_t0 : Lay := R_tk4 4000
def R_t0 : Lay := { keys := [3, 4, 10], ks := [.p 5 0 0 0, .p 6 0 0 0, kKn], bs := [(5, 38, kSo), (6, 38, kSo)], n := 233, nx := 4000, marks := [] }
def E_t0 : XE → Lay := fun e => match e with | .ret => Rf_tk4 | _ => R_t0
theorem E_t0_nx (e : XE) : L_t0.nx ≤ (E_t0 e).nx := by cases e <;> first | exact Nat.le_refl _ | exact (by decide : (4000 : Nat) ≤ 12000)
abbrev YR4 : Type := FL_rs.T → Option (MK ⊕ Int)
def sm_t1 : St → Tree (XE × St) := loopSum (Lt_k 12 5000) (E_k 5000) (finX [.ret, .exit 2] st_t1 (fu_t 12 5000))
def sm_t2 : St → Tree (XE × St) := loopSum (Lt_k 15 6000) (E_k 6000) (finX [.exit 4] st_t2 (fu_t 15 6000))
def sm_t3 : St → Tree (XE × St) := loopSum (Lt_k 19 9000) (E_k 9000) (finX [.ret, .exit 6] st_t3 (fu_t 19 9000))
noncomputable def X_t0 (Y : YR4) : Ctx := ctxS Tryz.prog plR4 [(119, Tryz.f119)] [] [(63, spYR Y)]
theorem X_t0_ok {Y : YR4} (h : SpecOk Tryz.prog 63 (spYR Y)) : CtxOk (X_t0 Y) := ctxS_ok mixed puR4 (fns_cons is_rcounts fns_nil) no_loops4 (fun p hp => by
  rw [List.mem_singleton] at hp; subst hp; exact ⟨is_rsettle.plain, h⟩)
def Lt_t0 : LoopT := fun k => bif Nat.beq k 12 then some sm_t1 else bif Nat.beq k 20 then some sm_t2 else bif Nat.beq k 32 then some sm_t3 else none
theorem loops_t0 : loopsOf lb_t0 = [lb_t1, lb_t2, lb_t3, lb_t4] := by kernel_rfl
theorem key_t1 : keyOf lb_t1 = 12 := by kernel_rfl
theorem key_t2 : keyOf lb_t2 = 20 := by kernel_rfl
theorem key_t3 : keyOf lb_t3 = 32 := by kernel_rfl
abbrev T0 := Tree (L_t0.T ⊕ Left' E_t0)
def hd_t0 (c : RT) (s : S2) : L_t0.T := (((), (), (), c.ps, s.2.2, c.st, ()), bR c s)
def h1_t0 (g : L_t0.T) : (Lt_k 12 5000).T := (((), (), (), g.1.2.2.2.1, g.1.2.2.2.2.1, g.1.2.2.2.2.2.1, 0, ()), g.2)
def h2_t0 (r : (R_tk4 5000).T) : (Lt_k 15 6000).T := (((), (), (), r.1.2.2.2.1, r.1.2.2.2.2.1, r.1.2.2.2.2.2.1, 0, ()), r.2)
def ar_t0 (r : (R_tk4 6000).T) : FL_rs.T := (((lwG r.2.1, blX r.2.1, gmCx r.2.1, ()), r.2.2.1, r.2.2.1.2.2.2.2.1, r.1.2.2.2.2.2.1, ()), ())
def h3_t0 (r : (R_tk4 6000).T) (a : MK) : (Lt_k 19 9000).T := (((), (), (), r.1.2.2.2.1, r.1.2.2.2.2.1 ++ a.2, r.1.2.2.2.2.2.1, 0, ()), (r.2.1, (a.1, r.2.2.1.2), r.2.2.2.1, ()))
def n0_t0 (r : (R_tk4 9000).T) : L_t0.T := (((), (), (), r.1.2.2.2.1, r.1.2.2.2.2.1, W64 (r.1.2.2.2.2.2.1 + 1), ()), r.2)
def re_t0 (e : Int) : T0 := .leaf (.inr ⟨.ret, (((), [], e, ()), (r0, ()))⟩)
def rr_t0 (r : Rf_tk4.T) : T0 := .leaf (.inr ⟨.ret, r⟩)
def k4_t0 (y : Option (Left' (E_k 9000))) : T0 := bif isE .ret y then rr_t0 (valE .ret y) else bif isE (.exit 6) y then .leaf (.inl (n0_t0 (valE (.exit 6) y))) else .fail
def k3_t0 (r : (R_tk4 6000).T) (a : MK) : T0 := aoT (r.1.2.2.2.2.1 : Kns) a.2 40 (k4_t0 (iter st_t3 (fu_t 19 9000 (h3_t0 r a)) (h3_t0 r a)))
def k2_t0 (Y : YR4) (y : Option (Left' (E_k 6000))) : T0 := bif isE (.exit 4) y then thL (Y (ar_t0 (valE (.exit 4) y))) ([], []) re_t0 (k3_t0 (valE (.exit 4) y)) esR else .fail
def k1_t0 (Y : YR4) (y : Option (Left' (E_k 5000))) : T0 := bif isE .ret y then rr_t0 (valE .ret y) else bif isE (.exit 2) y then k2_t0 Y (iter st_t2 (fu_t 15 6000 (h2_t0 (valE (.exit 2) y))) (h2_t0 (valE (.exit 2) y))) else .fail
def st_t0 (Y : YR4) (g : L_t0.T) : T0 := bif decide (g.1.2.2.2.2.2.1 ≤ 16) then k1_t0 Y (iter st_t1 (fu_t 12 5000 (h1_t0 g)) (h1_t0 g)) else .leaf (.inr ⟨.exit 0, (((), (), g.1.2.2.2.2.1, ()), g.2.2)⟩)
def fu_t0 (_ : L_t0.T) : Nat := 17
def sm_t0 (Y : YR4) : St → Tree (XE × St) := loopSum L_t0 E_t0 (finX [.ret, .exit 0] (st_t0 Y) fu_t0)
theorem l_t0 {Y : YR4} (h : SpecOk Tryz.prog 63 (spYR Y)) : LoopOk Tryz.prog 69 lb_t0 (sm_t0 Y) := loopOk_x (X_t0_ok h) 7 _ Lt_t0 (fun d hd f hf => by
    rw [loops_t0] at hd
    simp only [List.mem_cons, List.not_mem_nil, or_false] at hd
    rcases hd with rfl | rfl | rfl | rfl
    · rw [key_t1] at hf; cases hf; exact l_t1
    · rw [key_t2] at hf; cases hf; exact l_t2
    · rw [key_t3] at hf; cases hf; exact l_t3
    · rw [key_t4] at hf; cases hf) _ _ E_t0_nx [.ret, .exit 0] (st_t0 Y) fu_t0 (fun g => by kernel_rfl)
end St
end V
end Go.Proofs.YtkiaifmbbnnliaaGreat
