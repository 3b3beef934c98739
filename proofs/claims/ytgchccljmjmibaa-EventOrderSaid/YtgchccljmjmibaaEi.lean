/- Chapter 11: the sides of all matches: loops. -/
import Derived.Test.YtgchccljmjmibaaEh
namespace Go.Proofs.Ytgchccljmjmibaa
open Go.RowKit
namespace V
namespace Ev
theorem is_sides : FnIs Try.prog (69, Try.f69) := ⟨Try.func69, by kernel_rfl, by kernel_rfl⟩
theorem is_clone : FnIs Try.prog (63, Try.f63) := ⟨Try.func63, by kernel_rfl, by kernel_rfl⟩
theorem is_eSides : FnIs Try.prog (33, Try.f33) := ⟨Try.func33, by kernel_rfl, by kernel_rfl⟩
theorem is_eChamp : FnIs Try.prog (35, Try.f35) := ⟨Try.func35, by kernel_rfl, by kernel_rfl⟩
theorem is_eAll : FnIs Try.prog (68, Try.f68) := ⟨Try.func68, by kernel_rfl, by kernel_rfl⟩
theorem is_rsides : FnIs Try.prog (71, Try.f71) := ⟨Try.func71, by kernel_rfl, by kernel_rfl⟩
theorem is_rwin : FnIs Try.prog (72, Try.f72) := ⟨Try.func72, by kernel_rfl, by kernel_rfl⟩
theorem is_rSides : FnIs Try.prog (34, Try.f34) := ⟨Try.func34, by kernel_rfl, by kernel_rfl⟩
theorem is_rChamp : FnIs Try.prog (36, Try.f36) := ⟨Try.func36, by kernel_rfl, by kernel_rfl⟩
theorem is_rboth : FnIs Try.prog (70, Try.f70) := ⟨Try.func70, by kernel_rfl, by kernel_rfl⟩
abbrev cPq : TC := .st [cI, cI]
noncomputable def lb_si : Code := (loopsOf (bodyOf Try.f69)).getD 0 .skip
def L_si : Lay := { keys := [6, 7, 8, 9], ks := [.q 1, .o 3 cI, .o 45 cPq, .d cI], bs := [(1, 0, [.m cI cSc])], n := 83, nx := 3000, marks := [] }
def R_si : Lay := { keys := [7, 8], ks := [.o 3 cI, .o 45 cPq], bs := [], n := 83, nx := 3000, marks := [] }
def E_si : XE → Lay := fun _ => R_si
abbrev cSi := L_si.T ⊕ Left' E_si
noncomputable def lb_wi : Code := (loopsOf (bodyOf Try.f72)).getD 0 .skip
noncomputable def lb_rs0 : Code := (loopsOf (bodyOf Try.f71)).getD 0 .skip
noncomputable def lb_rs1 : Code := (loopsOf (bodyOf Try.f71)).getD 1 .skip
def hd_si (m : cMp) (line : List Int) (out : List (TCT cPq)) (i : Int) : L_si.T := (((), line, out, i, ()), (m, ()), ())
def ex_si (line : List Int) (out : List (TCT cPq)) : Left' E_si := ⟨.exit 0, ((line, out, ()), ())⟩
def pu_si (m : cMp) (line : List Int) (out : List (TCT cPq)) (i a b w : Int) : Tree cSi := bif appOk line [w] 8 then .leaf (.inl (hd_si m (line ++ [w]) (out ++ [(a, b, ())]) (W64 (i + 2)))) else .fail
def wi_si (m : cMp) (line : List Int) (out : List (TCT cPq)) (i a b : Int) (o : Option (TCT cSc)) : Tree cSi :=
  bif a == -1 then pu_si m line out i a b b else bif b == -1 then pu_si m line out i a b a else bif o.isSome then (bif a != -2 then (bif b != -2 then (bif decide ((or0 o).2.2.1 = 0) then pu_si m line out i a b a else bif decide ((or0 o).2.2.1 = 1) then pu_si m line out i a b b else .fail) else pu_si m line out i a b (-2)) else pu_si m line out i a b (-2)) else pu_si m line out i a b (-2)
def ab_si (m : cMp) (line : List Int) (out : List (TCT cPq)) (i a b : Int) : Tree cSi := bif appOk out [(a, b, ())] 16 then wi_si m line out i a b (m (out.length : Int)) else .fail
def sm_si (m : cMp) (line : List Int) (out : List (TCT cPq)) (i : Int) : Tree cSi := bif decide (W64 (i + 1) < (line.length : Int)) then inO line.length i (inO line.length (W64 (i + 1)) (ab_si m line out i (getA line (Int.toNat i) 0) (getA line (Int.toNat (W64 (i + 1))) 0))) else .leaf (.inr (ex_si line out))
def st_si (g : L_si.T) : Tree cSi := sm_si g.2.1.1 g.1.2.1 g.1.2.2.1 g.1.2.2.2.1
def fu_si (g : L_si.T) : Nat := (g.1.2.1 : List Int).length + 1
theorem e_si (g : L_si.T) : evC Try.prog (evFn XCo 6) XCo.pures 69 XCo.u (fun _ => none) lb_si (L_si.of g) (stepOut L_si E_si) = st_si g := by kernel_rfl
/-- who goes on -/
def winV (o : Option (TCT cSc)) (a b : Int) : Int := bif a == -1 then b else bif b == -1 then a else bif o.isSome && (a != -2 && b != -2) then (bif decide ((or0 o).2.2.1 = 0) then a else b) else -2
/-- matches one after another: those who wait, and the sides -/
def siQ (m : cMp) : Nat → List Int → List (TCT cPq) → List Int × List (TCT cPq)
  | 0, q, out => (q, out)
  | d + 1, a :: b :: r, out => siQ m d (r ++ [winV (m (out.length : Int)) a b]) (out ++ [(a, b, ())])
  | _ + 1, q, out => (q, out)
theorem siQ_len (m : cMp) : ∀ (d : Nat) (q : List Int) (out : List (TCT cPq)), q.length = d + 1 → (siQ m d q out).1.length = 1 ∧ (siQ m d q out).2.length = out.length + d
  | 0, q, out, h => ⟨h, rfl⟩
  | d + 1, a :: b :: r, out, h => by
    have := siQ_len m d (r ++ [winV (m (out.length : Int)) a b]) (out ++ [(a, b, ())]) (by simp at h ⊢; omega)
    refine ⟨this.1, ?_⟩
    rw [show siQ m (d + 1) (a :: b :: r) out = siQ m d (r ++ [winV (m (out.length : Int)) a b]) (out ++ [(a, b, ())]) from rfl, this.2]
    simp; omega
  | d + 1, [a], out, h => by simp at h
  | d + 1, [], out, h => by simp at h
/-- sheets whose winner is a side -/
def W01 (m : cMp) : Prop := ∀ k s, m k = some s → s.2.2.1 = 0 ∨ s.2.2.1 = 1
theorem wi_run {m : cMp} (hm : W01 m) (line : List Int) (out : List (TCT cPq)) (i a b : Int) (hl : line.length ≤ 1000) :
    (wi_si m line out i a b (m (out.length : Int))).run = some (.inl (hd_si m (line ++ [winV (m (out.length : Int)) a b]) (out ++ [(a, b, ())]) (W64 (i + 2)))) := by
  have pu : ∀ w, (pu_si m line out i a b w).run = some (.inl (hd_si m (line ++ [w]) (out ++ [(a, b, ())]) (W64 (i + 2)))) := by
    intro w
    unfold pu_si
    rw [app_ok (by simp; omega) (by omega)]
    rfl
  unfold wi_si winV
  cases a == -1 with
  | true => exact pu _
  | false =>
    simp only [cond_false]
    cases b == -1 with
    | true => exact pu _
    | false =>
      simp only [cond_false]
      cases ho : m (out.length : Int) with
      | none => exact pu _
      | some s =>
        simp only [Option.isSome_some, cond_true, Bool.true_and]
        cases a != -2 with
        | false => exact pu _
        | true =>
          cases b != -2 with
          | false => exact pu _
          | true =>
            simp only [cond_true, Bool.and_self]
            rcases hm _ _ ho with h | h
            · rw [show (or0 (some s)).2.2.1 = s.2.2.1 from rfl, h]
              exact pu _
            · rw [show (or0 (some s)).2.2.1 = s.2.2.1 from rfl, h]
              exact pu _
theorem si_run {m : cMp} (hm : W01 m) : ∀ (d : Nat) (line : List Int) (out : List (TCT cPq)) (fuel : Nat), line.length = 2 * out.length + (d + 1) → line.length + d ≤ 1000 → d < fuel →
    ∃ line', line'.length = 2 * (out.length + d) + 1 ∧ line'.drop (2 * (out.length + d)) = (siQ m d (line.drop (2 * out.length)) out).1 ∧ iter st_si fuel (hd_si m line out (2 * out.length : Nat)) = some (ex_si line' (siQ m d (line.drop (2 * out.length)) out).2)
  | 0, line, out, fuel + 1, hl, hs, _ => by
    refine ⟨line, by omega, rfl, iter_out ?_⟩
    show (sm_si m line out (2 * out.length : Nat)).run = _
    unfold sm_si
    rw [W64_id (n := ((2 * out.length : Nat) : Int) + 1) (by omega) (by omega), decide_eq_false (show ¬ (((2 * out.length : Nat) : Int) + 1 < (line.length : Int)) by omega)]
    rfl
  | d + 1, line, out, fuel + 1, hl, hs, hf => by
    have h0 : 2 * out.length < line.length := by omega
    have h1 : 2 * out.length + 1 < line.length := by omega
    have hd : line.drop (2 * out.length) = line[2 * out.length] :: line[2 * out.length + 1] :: line.drop (2 * out.length + 2) := by
      rw [List.drop_eq_getElem_cons h0, List.drop_eq_getElem_cons h1]
    have hrun : (st_si (hd_si m line out (2 * out.length : Nat))).run = some (.inl (hd_si m (line ++ [winV (m (out.length : Int)) line[2 * out.length] line[2 * out.length + 1]]) (out ++ [(line[2 * out.length], line[2 * out.length + 1], ())]) (2 * (out ++ [(line[2 * out.length], line[2 * out.length + 1], ())]).length : Nat))) := by
      show (sm_si m line out (2 * out.length : Nat)).run = _
      unfold sm_si
      rw [W64_id (n := ((2 * out.length : Nat) : Int) + 1) (by omega) (by omega), decide_eq_true (show (((2 * out.length : Nat) : Int) + 1 < (line.length : Int)) by omega), inO_ok (by omega), inO_ok (by omega)]
      simp only [cond_true]
      rw [show Int.toNat ((2 * out.length : Nat) : Int) = 2 * out.length by omega, show Int.toNat (((2 * out.length : Nat) : Int) + 1) = 2 * out.length + 1 by omega, getA_lt h0, getA_lt h1]
      unfold ab_si
      rw [app_ok (by simp; omega) (by omega)]
      simp only [cond_true]
      rw [wi_run hm _ _ _ _ _ (by omega), W64_id (n := ((2 * out.length : Nat) : Int) + 2) (by omega) (by omega)]
      rw [show ((2 * out.length : Nat) : Int) + 2 = ((2 * (out ++ [(line[2 * out.length], line[2 * out.length + 1], ())]).length : Nat) : Int) by simp; omega]
    obtain ⟨line', q1, q2, q3⟩ := si_run hm d (line ++ [winV (m (out.length : Int)) line[2 * out.length] line[2 * out.length + 1]]) (out ++ [(line[2 * out.length], line[2 * out.length + 1], ())]) fuel (by simp; omega) (by simp; omega) (by omega)
    have e : (line ++ [winV (m (out.length : Int)) line[2 * out.length] line[2 * out.length + 1]]).drop (2 * (out ++ [(line[2 * out.length], line[2 * out.length + 1], ())]).length) = line.drop (2 * out.length + 2) ++ [winV (m (out.length : Int)) line[2 * out.length] line[2 * out.length + 1]] := by
      rw [show 2 * (out ++ [(line[2 * out.length], line[2 * out.length + 1], ())]).length = 2 * out.length + 2 by simp; omega, List.drop_append_of_le_length (by omega)]
    rw [e] at q2 q3
    rw [hd, show siQ m (d + 1) (line[2 * out.length] :: line[2 * out.length + 1] :: line.drop (2 * out.length + 2)) out = siQ m d (line.drop (2 * out.length + 2) ++ [winV (m (out.length : Int)) line[2 * out.length] line[2 * out.length + 1]]) (out ++ [(line[2 * out.length], line[2 * out.length + 1], ())]) from rfl]
    refine ⟨line', by rw [q1]; simp; omega, ?_, ?_⟩
    · rw [← q2]; congr 1; simp; omega
    · rw [iter_in hrun]; exact q3
end Ev
end V
end Go.Proofs.Ytgchccljmjmibaa
