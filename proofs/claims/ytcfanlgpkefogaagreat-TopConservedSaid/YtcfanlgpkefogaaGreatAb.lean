import Derived.Test.YtcfanlgpkefogaaGreatAa
namespace Go.Proofs.YtcfanlgpkefogaaGreat
open Go.RowKit
namespace V
theorem is_Concat : FnIs Tryz.prog (73, Tryz.f73) := ⟨Tryz.func73, by kernel_rfl, by kernel_rfl⟩
theorem is_Grow : FnIs Tryz.prog (113, Tryz.f113) := ⟨Tryz.func113, by kernel_rfl, by kernel_rfl⟩
abbrev By5 : Type := List (TCT Baf)
def ccA (a : By5) : Int := W64 (0 + (a.length : Int))
def ccS (a b : By5) : Int := W64 (ccA a + (b.length : Int))
def ccZ (n : Int) : By5 := List.take (Int.toNat 0) (List.replicate (Int.toNat n) (Bar Baf))
abbrev Coa := Tree (TCTs [.sl Baf])
def ccK (z a b : By5) : Coa := bif Bd8 z a 24 then bif Bd8 (z ++ a) b 24 then .leaf (z ++ a ++ b, ()) else .fail else .fail
def Cob (a b : By5) : Coa :=
 bif decide (ccA a < 0) then .fail else bif decide (ccS a b < 0) then .fail else bif decide (ccS a b < 0) then .fail else
 bif decide (W64 (ccS a b - W64 (0 - 0)) > 0) then
  bif decide (1 ≤ W64 (ccS a b - W64 (0 - 0)) ∧ W64 (ccS a b - W64 (0 - 0)) ≤ 65536 ∧ W64 (ccS a b - W64 (0 - 0)) * 24 ≤ 281474976710656) then
   ccK (ccZ (W64 (ccS a b - W64 (0 - 0)))) a b
  else .fail
 else ccK [] a b
theorem Cfl {z a b : By5} (hz : z = []) (h : a.length + b.length ≤ 60000) : (ccK z a b).sat (fun y => y = (a ++ b, ())) := by
 subst hz
 unfold ccK
 rw [Be0, Be0, decide_eq_true (by simp only [List.length_nil]; omega), decide_eq_true (by simp only [List.nil_append]; omega)]
 exact Bal rfl
theorem Coc {a b : By5} (h : a.length + b.length ≤ 60000) : (Cob a b).sat (fun y => y = (a ++ b, ())) := by
 unfold Cob
 have e1 : ccA a = (a.length : Int) := by unfold ccA; rw [Bba (by omega) (by omega)]; omega
 have e2 : ccS a b = (a.length : Int) + b.length := by unfold ccS; rw [e1, Bba (by omega) (by omega)]
 have e3 : W64 (ccS a b - W64 (0 - 0)) = (a.length : Int) + b.length := by
  rw [show W64 (0 - 0) = 0 from rfl, e2, Bba (by omega) (by omega)]; omega
 rw [e1, e2] at *
 rw [e3, decide_eq_false (show ¬ ((a.length : Int) < 0) by omega), decide_eq_false (show ¬ ((a.length : Int) + b.length < 0) by omega)]
 simp only [cond_false]
 cases h0 : decide ((a.length : Int) + b.length > 0) with
 | true =>
  have := of_decide_eq_true h0
  rw [cond_true, decide_eq_true (by omega), cond_true]
  exact Cfl rfl h
 | false => exact Cfl rfl h
def cc2 (l : List (List (TCT Baf))) : Bool := match l with
 | [a, b] => decide (a.length + b.length ≤ 60000)
 | _ => false
def ccV (l : List (List (TCT Baf))) : By5 := match l with
 | [a, b] => a ++ b
 | _ => []
theorem Cfm {l : List (List (TCT Baf))} (h : cc2 l = true) : ∃ a b, l = [a, b] ∧ a.length + b.length ≤ 60000 := by
 match l, h with
 | [a, b], h => exact ⟨a, b, rfl, of_decide_eq_true h⟩
abbrev C0f : PureT := Bbb [.sl (.sl Baf)] [.sl Baf] (fun x => cc2 x.1) (fun x => (ccV x.1, ()))
noncomputable def Cfn : Ctx := Cf7 3 Tryz.prog [] [(73, Tryz.f73), (113, Tryz.f113)]
theorem Cod : CtxOk Cfn := Bp5 Ban puOk_nil (fns_cons is_Concat (fns_cons is_Grow Fq))
noncomputable def C8p (x : TCTs [.sl (.sl Baf)]) : Coa := Bcv Cfn 10 (.fn 73) (Bde [.sl (.sl Baf)] x) Bbv 0 (Bgq Cfn.P [.sl Baf])
theorem Ccd (x : TCTs [.sl (.sl Baf)]) : Bcv Cfn 10 (.fn 73) (Bde [.sl (.sl Baf)] x) Bbv 0 (Bgq Cfn.P [.sl Baf]) = C8p x := by kernel_rfl
theorem Coe (a b : By5) : C8p ([a, b], ()) = Cob a b := by kernel_rfl
def Cfo (l : List (List (TCT Baf))) : Coa := match l with
 | [a, b] => Cob a b
 | _ => .fail
theorem Cfp (x : TCTs [.sl (.sl Baf)]) (h : cc2 x.1 = true) : C8p x = Cfo x.1 := by
 obtain ⟨l, ⟨⟩⟩ := x
 obtain ⟨a, b, e, _⟩ := Cfm h
 have e : l = [a, b] := e
 subst e
 exact Coe a b
theorem Cfq : Bai Tryz.prog 73 C0f := D5b Cod 10 C8p (fun x => Cfo x.1) Ccd Cfp fun x h _ => by
 obtain ⟨a, b, e, hn⟩ := Cfm h
 show (Cfo x.1).sat (fun y => y = (ccV x.1, ()))
 rw [e]
 exact Coc hn
end V
end Go.Proofs.YtcfanlgpkefogaaGreat
