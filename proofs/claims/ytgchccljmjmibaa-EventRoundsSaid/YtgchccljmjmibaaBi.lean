/- The law EventRounds: its outer loop, its tree. -/
import Derived.Test.YtgchccljmjmibaaBh
namespace Go.Proofs.Ytgchccljmjmibaa
open Go.RowKit
namespace V
namespace Ev
def hd_rd0 (many : Int) (l : List (List (TCT cPr))) (seen : List Bool) (games r : Int) : L_rd0.T := ((many, l, seen, games, r, ()), ())
def in_rd0 (g : L_rd1.T) : Option (Left' E_rd1) := iter st_rd1 (fu_rd1 g) g
def yx_rd0 (v : R_rd1.T) : Tree cR0 := .leaf (.inl (hd_rd0 v.1.1 v.1.2.1 v.1.2.2.1 v.1.2.2.2.1 (W64 (v.1.2.2.2.2.1 + 1))))
def y_rd0 (y : Option (Left' E_rd1)) : Tree cR0 := bif isE .ret y then .leaf (.inr ⟨.ret, (((valE .ret y).1.1, ()), ())⟩) else bif isE (.exit 2) y then yx_rd0 (valE (.exit 2) y) else .fail
def sm_rd0 (many : Int) (l : List (List (TCT cPr))) (seen : List Bool) (games r : Int) : Tree cR0 :=
  bif decide (r < (l.length : Int)) then mkT many (y_rd0 (in_rd0 (hd_rd1 many l seen games r (List.replicate (Int.toNat many) false) 0))) else .leaf (.inr ⟨.exit 0, ((seen, games, ()), ())⟩)
def st_rd0 (g : L_rd0.T) : Tree cR0 := sm_rd0 g.1.1 g.1.2.1 g.1.2.2.1 g.1.2.2.2.1 g.1.2.2.2.2.1
def fu_rd0 (g : L_rd0.T) : Nat := (g.1.2.1 : List (List (TCT cPr))).length + 1
theorem e_rd0 (g : L_rd0.T) : evC Try.prog (evFn XRd 6) XRd.pures 6 XRd.u Lt_rd0 lb_rd0 (L_rd0.of g) (stepOut L_rd0 E_rd0) = st_rd0 g := by kernel_rfl
abbrev cs_eventRounds : List TC := [.i .u8]
def y1_rd (y : Option (Left' E_rd0)) : Tree Unit := bif isE .ret y then (bif (valE .ret y).1.1 then .leaf () else .fail) else bif isE (.exit 0) y then (bif (valE (.exit 0) y).1.2.1 == (((valE (.exit 0) y).1.1 : List Bool).length : Int) then .leaf () else .fail) else .fail
def T_rd' (m : Int) (l : List (List (TCT cPr))) : Tree Unit :=
  bif (l.length : Int) != W64 (W64 (m - 1) + Int.tmod m 2) then .fail else mkT (W64 (Int.tdiv (W64 (m * W64 (m - 1))) 2)) (y1_rd (iter st_rd0 (l.length + 1) (hd_rd0 m l (List.replicate (Int.toNat (W64 (Int.tdiv (W64 (m * W64 (m - 1))) 2))) false) 0 0)))
def T_rd (m : Int) : Tree Unit := bif decide (2 ≤ m ∧ m ≤ 16) then T_rd' m (rnds m.toNat) else .fail
def mn_rd (n : Int) : Int := W64 (2 + Int.tmod (W64 n) 15)
set_option maxRecDepth 100000
theorem T_rd_2 : T_rd 2 = .leaf () := by kernel_rfl
theorem T_rd_3 : T_rd 3 = .leaf () := by kernel_rfl
theorem T_rd_4 : T_rd 4 = .leaf () := by kernel_rfl
theorem T_rd_5 : T_rd 5 = .leaf () := by kernel_rfl
theorem T_rd_6 : T_rd 6 = .leaf () := by kernel_rfl
theorem T_rd_7 : T_rd 7 = .leaf () := by kernel_rfl
theorem T_rd_8 : T_rd 8 = .leaf () := by kernel_rfl
theorem T_rd_9 : T_rd 9 = .leaf () := by kernel_rfl
theorem T_rd_10 : T_rd 10 = .leaf () := by kernel_rfl
theorem T_rd_11 : T_rd 11 = .leaf () := by kernel_rfl
theorem T_rd_12 : T_rd 12 = .leaf () := by kernel_rfl
theorem T_rd_13 : T_rd 13 = .leaf () := by kernel_rfl
theorem T_rd_14 : T_rd 14 = .leaf () := by kernel_rfl
theorem T_rd_15 : T_rd 15 = .leaf () := by kernel_rfl
theorem T_rd_16 : T_rd 16 = .leaf () := by kernel_rfl
theorem T_rd_ok (n : Int) (h0 : 0 ≤ n) (h1 : n ≤ 255) : (T_rd (mn_rd n)).sat (fun _ => True) := by
  have e : mn_rd n = 2 + n % 15 := by
    unfold mn_rd
    rw [W64_id (n := n) (by omega) (by omega), Int.tmod_eq_emod_of_nonneg h0, W64_id (by omega) (by omega)]
  rw [e]
  have hb : 2 ≤ 2 + n % 15 ∧ 2 + n % 15 ≤ 16 := by omega
  generalize 2 + n % 15 = m at hb
  obtain rfl | rfl | rfl | rfl | rfl | rfl | rfl | rfl | rfl | rfl | rfl | rfl | rfl | rfl | rfl : m = 2 ∨ m = 3 ∨ m = 4 ∨ m = 5 ∨ m = 6 ∨ m = 7 ∨ m = 8 ∨ m = 9 ∨ m = 10 ∨ m = 11 ∨ m = 12 ∨ m = 13 ∨ m = 14 ∨ m = 15 ∨ m = 16 := by omega
  · rw [T_rd_2]; trivial
  · rw [T_rd_3]; trivial
  · rw [T_rd_4]; trivial
  · rw [T_rd_5]; trivial
  · rw [T_rd_6]; trivial
  · rw [T_rd_7]; trivial
  · rw [T_rd_8]; trivial
  · rw [T_rd_9]; trivial
  · rw [T_rd_10]; trivial
  · rw [T_rd_11]; trivial
  · rw [T_rd_12]; trivial
  · rw [T_rd_13]; trivial
  · rw [T_rd_14]; trivial
  · rw [T_rd_15]; trivial
  · rw [T_rd_16]; trivial
end Ev
open Ev
noncomputable def X_eventRounds : Ctx := ctxL Try.prog plRd [(6, Try.f6)] [((6, 8), loopSum L_rd0 E_rd0 (finX [.ret, .exit 0] st_rd0 fu_rd0))]
theorem T_rd_eq (y : TCTs cs_eventRounds) : evFn X_eventRounds 7 (.fn 6) (encAs cs_eventRounds y) noHeap 0 lawK = T_rd (mn_rd y.1) := by kernel_rfl
noncomputable abbrev XRd0 : Ctx := XRd
theorem XRd_ok : CtxOk XRd := ctx_ok mixed puRd fns_nil
theorem l_rd1 : LoopOk Try.prog 6 lb_rd1 (loopSum L_rd1 E_rd1 (finX [.ret, .exit 2] st_rd1 fu_rd1)) := loopOk_x0 (X := XRd) XRd_ok 6 _ L_rd1 E_rd1 (fun e => by cases e <;> exact Nat.le_refl _) [.ret, .exit 2] _ fu_rd1 e_rd1
theorem loops_rd0 : loopsOf lb_rd0 = [lb_rd1] := by kernel_rfl
theorem key_rd1 : keyOf lb_rd1 = 12 := by kernel_rfl
theorem l_rd0 : LoopOk Try.prog 6 lb_rd0 (loopSum L_rd0 E_rd0 (finX [.ret, .exit 0] st_rd0 fu_rd0)) := loopOk_x (X := XRd) XRd_ok 6 _ Lt_rd0 (fun d hd f hf => by
  rw [loops_rd0, List.mem_singleton] at hd
  subst hd
  rw [key_rd1] at hf
  cases hf
  exact l_rd1) L_rd0 E_rd0 (fun e => by cases e <;> exact Nat.le_refl _) [.ret, .exit 0] _ fu_rd0 e_rd0
theorem X_eventRounds_ok : CtxOk X_eventRounds := ctxL_ok mixed puRd (fns_cons is_w3 fns_nil) (loops_cons (loops_of (ds := [lb_rd0, lb_rd1]) (by kernel_rfl) ⟨one_key (k := 8) (by kernel_rfl) rfl l_rd0, no_key (k := 12) (by kernel_rfl) rfl, trivial⟩) loops_nil)
theorem eventRounds_sat : LawSat X_eventRounds 6 cs_eventRounds 7 := lawSat 7 (fun y => T_rd (mn_rd y.1)) T_rd_eq fun y hw => T_rd_ok y.1 hw.1.1 hw.1.2
end V
end Go.Proofs.Ytgchccljmjmibaa
